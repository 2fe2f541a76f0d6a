/- Minds: fading. -/
import Derived.Test.YtlkfffohjeoooaaVMdB
import Derived.Test.YtlkfffohjeoooaaVMdP
namespace Go.Proofs.Ytlkfffohjeoooaa
open Go.RowKit
set_option linter.unusedVariables false
set_option linter.unusedSimpArgs false
/-- blocks of other types than a row of ints are as they were -/
def KeepI (w w' : World) : Prop := w.heap.size ≤ w'.heap.size ∧ ∀ b t cs, Blk w b t cs → t ≠ 3 → Blk w' b t cs
theorem KeepI.of_ext {w w' : World} (h : Below w.heap.size w w') : KeepI w w' := ⟨h.size, fun _ _ _ hb _ => hb.ext h⟩
theorem KeepI.trans {w w1 w2 : World} (h : KeepI w w1) (k : KeepI w1 w2) : KeepI w w2 := ⟨Nat.le_trans h.1 k.1, fun b t cs hb h1 => k.2 b t cs (h.2 b t cs hb h1) h1⟩
theorem KeepI.set {w w1 : World} (h : KeepI w w1) {p : Addr} {cs : Array Value} (hp : Blk w1 p.block 3 cs) (u : Value) : KeepI w (w1.setCell p u) :=
 ⟨Nat.le_trans h.1 (by simp), fun b t cs' hb ht => (h.2 b t cs' hb ht).setF (fun e => ht (by
  have h2 := h.2 b t cs' hb ht
  rw [← e] at h2
  unfold Blk at h2 hp
  rw [h2] at hp
  injection hp with hp
  injection hp)) u⟩
theorem KeepI.own {w w' : World} (h : KeepI w w') {B e size n : Nat} {v : Value} {xs : List Value} (ho : w.ownsRow B e size v n xs) (he : e ≠ 3) : w'.ownsRow B e size v n xs := by
 refine ⟨ho.1, ?_⟩
 rcases ho.2 with hn | ⟨g, cap, cur, rfl, hb, hgg, rest⟩
 · exact .inl hn
 · exact .inr ⟨g, cap, cur, rfl, hb, h.2 g e cur hgg he, rest⟩
theorem own_blk {w : World} {B e size g n c : Nat} {xs : List Value} (ho : w.ownsRow B e size (.slice (some ⟨g, 0, none⟩) n c) n xs) : ∃ cs, Blk w g e cs := by
 rcases ho.2 with ⟨h0, _⟩ | ⟨g', cap, cur, hv, _, hh, _⟩
 · cases h0
 · injection hv with hv
   injection hv with hv
   injection hv with hv
   subst hv
   exact ⟨cur, hh⟩
/-- a cell of a row of ints -/
theorem int_cell {w : World} {B g n c k : Nat} {l : List Int} {z : Int} (h : w.ownsRow B 3 1 (.slice (some ⟨g, 0, none⟩) n c) n (intsV l)) (hz : l[k]? = some z) : w.cell? ⟨g, k, none⟩ = some (.int .i64 z) := by
 have := h.cells rfl k (.int .i64 z) (intsV_get hz)
 rw [add_flat, Nat.zero_add] at this
 exact this
theorem int_set {w : World} {B g n c k : Nat} {l : List Int} {z : Int} (h : w.ownsRow B 3 1 (.slice (some ⟨g, 0, none⟩) n c) n (intsV l)) : (w.setCell ⟨g, k, none⟩ (.int .i64 z)).ownsRow B 3 1 (.slice (some ⟨g, 0, none⟩) n c) n (intsV (l.set k z)) := by
 have := (h.stored k (.int .i64 z)).1
 rw [← intsV_set] at this
 exact this
def RetFade (B g i n kc ic : Nat) (cl im : List Int) (w : World) (e : Ending) (w' : World) : Prop :=
 e = .returned (.tuple #[]) ∧ w'.ownsRow B 3 1 (.slice (some ⟨g, 0, none⟩) n kc) n (intsV cl) ∧ w'.ownsRow B 3 1 (.slice (some ⟨i, 0, none⟩) n ic) n (intsV im) ∧ Below B w w' ∧ KeepI w w'
set_option maxRecDepth 100000 in
set_option maxHeartbeats 8000000 in
theorem fade_any (B u' : Nat) (u lo : Int) (A : Option Addr) (n c g kc i ic : Nat) (cl im : List Int) (be gu b ex : Int) (w : World) (hn : n ≤ 8) (hne : g ≠ i) (hB : B ≤ w.heap.size) (b0 : 0 ≤ b) (b9 : b ≤ 9) (hrow : rowsM im cl n = true) (hcl : cl.length = n) (him : im.length = n)
 (hc : w.ownsRow B 3 1 (.slice (some ⟨g, 0, none⟩) n kc) n (intsV cl)) (hi : w.ownsRow B 3 1 (.slice (some ⟨i, 0, none⟩) n ic) n (intsV im)) :
 Calls Try.prog 153 #[mdV u lo A n c (some ⟨g, 0, none⟩) n kc (some ⟨i, 0, none⟩) n ic be gu, .int .i64 b, .int .i64 ex] w (RetFade B g i n kc ic (fC b ex cl im n) (fI b ex cl im n) w) := by
 have HC0 := Lib.hid (show w.ownsRow B 3 1 (.slice (some ⟨g, 0, none⟩) n kc) n (intsV (fCto b ex cl im n 0)) by rw [fCto_zero b ex hcl]; exact hc)
 have HI0 := Lib.hid (show w.ownsRow B 3 1 (.slice (some ⟨i, 0, none⟩) n ic) n (intsV (fIto b ex cl im n 0)) by rw [fIto_zero b ex him]; exact hi)
 have hg := (hc.lt _ rfl).2
 have hii := (hi.lt _ rfl).2
 have HR := Lib.hid hrow
 have BM := Lib.hid (Blk.born w (mdC u lo A n c (some ⟨g, 0, none⟩) n kc (some ⟨i, 0, none⟩) n ic be gu) 47 (H := w.heap.size) rfl)
 have hb0 := Lib.hid (ext_alloc (ext_refl w) (.cells (mdC u lo A n c (some ⟨g, 0, none⟩) n kc (some ⟨i, 0, none⟩) n ic be gu) 47))
 have HC1 := Lib.hid (own_ext HC0.out hb0.out)
 have HI1 := Lib.hid (own_ext HI0.out hb0.out)
 clear HC0 HI0 hc hi hrow
 go_enter Try.func153, Try.ntmps153
 go_wp2
 go_loopw [10] (fun v wr => ∃ j : Nat, j ≤ n ∧ v = .int .i64 j ∧ Hid (wr.ownsRow B 3 1 (.slice (some ⟨g, 0, none⟩) n kc) n (intsV (fCto b ex cl im n j))) ∧ Hid (wr.ownsRow B 3 1 (.slice (some ⟨i, 0, none⟩) n ic) n (intsV (fIto b ex cl im n j))) ∧ Hid (Below B w wr) ∧ Hid (KeepI w wr) ∧ Hid (Blk wr w.heap.size 47 (mdC u lo A n c (some ⟨g, 0, none⟩) n kc (some ⟨i, 0, none⟩) n ic be gu))) (fun v _ => n - (intOf v).toNat)
 case atStart => exact ⟨0, Nat.zero_le _, rfl, HC1, HI1, Lib.hid (hb0.out.mono hB), Lib.hid (KeepI.of_ext hb0.out), BM⟩
 case round =>
  obtain ⟨j, hj, rfl, HCr, HIr, hbr, hkr, BMr⟩ := hrel
  obtain ⟨d0, d1, d2, d3, d4, d5, d6⟩ := BMr.out.q7
  have hsr := BMr.out.lt
  by_cases hlt : j < n
  · obtain ⟨z, hz⟩ := list_split (l := cl) (k := j) (by omega)
    obtain ⟨y, hy⟩ := list_split (l := im) (k := j) (by omega)
    have hrm := rowM_iff.1 (by have := rowsM_at HR.out hlt; rwa [getD_of hz, getD_of hy] at this)
    obtain ⟨y0, y9⟩ := hrm.1
    obtain ⟨z0, z5⟩ := hrm.2.1
    clear hrm
    have q0 := int_cell HCr.out (fCto_get b ex hlt hz)
    have q1 := int_cell HIr.out (fIto_get b ex hlt hy)
    have f0 := own_frozen HCr.out j
    have f1 := own_frozen HIr.out j
    have hgr : g < wr.heap.size := (HCr.out.lt _ rfl).2
    have hir : i < wr.heap.size := (HIr.out.lt _ rfl).2
    by_cases hex : (j : Int) = ex ∨ y < 0
    · have hC := Lib.hid (fCto_skip (b := b) (ex := ex) hlt hz hy (by unfold fdC; rw [if_pos hex]))
      have hI := Lib.hid (fIto_skip (b := b) (ex := ex) hlt hz hy (by unfold fdI; rw [if_pos hex]))
      clear hz hy
      by_cases hx : (j : Int) = ex
      · have e1 : ((j : Int) == ex) = true := by simp; exact hx
        clear hx hex
        go_wp2
        go_roundw
        case rel => exact ⟨j + 1, by omega, by go_num, by rw [← hC.out]; exact HCr, by rw [← hI.out]; exact HIr, hbr, hkr, BMr⟩
        case measure => simp [intOf]; omega
      · have e1 : ((j : Int) == ex) = false := by simp; exact hx
        have e2 : decide (y < 0) = true := by simp; omega
        clear hx hex
        go_wp2
        go_roundw
        case rel => exact ⟨j + 1, by omega, by go_num, by rw [← hC.out]; exact HCr, by rw [← hI.out]; exact HIr, hbr, hkr, BMr⟩
        case measure => simp [intOf]; omega
    · have e1 : ((j : Int) == ex) = false := by simp; omega
      have e2 : decide (y < 0) = false := by simp; omega
      by_cases hbz : b < z
      · have hC := Lib.hid (fCto_set (b := b) (ex := ex) hlt hz hy (v := z - b) (by unfold fdC; rw [if_neg hex]; omega))
        have hI := Lib.hid (fIto_skip (b := b) (ex := ex) hlt hz hy (by unfold fdI; rw [if_neg hex, if_neg (by omega)]))
        have e3 : (z - b == 0) = false := by simp; omega
        clear hz hy hex
        go_upto_region 5 with fail
        go_region
        obtain ⟨W, hW⟩ : ∃ x : World, x = (wr.setCell ⟨g, j, none⟩ (.int .i64 (z - b))) := ⟨_, rfl⟩
        obtain ⟨cs, hcs⟩ := own_blk HCr.out
        have HCW := Lib.hid (show W.ownsRow B 3 1 (.slice (some ⟨g, 0, none⟩) n kc) n (intsV (fCto b ex cl im n (j + 1))) by rw [hW, ← hC.out]; exact int_set HCr.out)
        have HIW := Lib.hid (show W.ownsRow B 3 1 (.slice (some ⟨i, 0, none⟩) n ic) n (intsV (fIto b ex cl im n (j + 1))) by rw [hW, ← hI.out]; exact own_setF (p := ⟨g, j, none⟩) HIr.out (by intro e; injection e with e; exact hne e.symm) _)
        have hbW := Lib.hid (show Below B w W by rw [hW]; exact hbr.out.setCell (p := ⟨g, j, none⟩) (HCr.out.lt _ rfl).1 _)
        have hkW := Lib.hid (show KeepI w W by rw [hW]; exact hkr.out.set (p := ⟨g, j, none⟩) hcs _)
        have BMW := Lib.hid (show Blk W w.heap.size 47 _ by rw [hW]; exact BMr.out.setF (p := ⟨g, j, none⟩) (by simp; omega) _)
        have qW := int_cell HCW.out (show (fCto b ex cl im n (j + 1))[j]? = some (z - b) by rw [← hC.out]; exact List.getElem?_set_self (by rw [fCto_len]; exact hlt))
        have fW := own_frozen HIW.out j
        have hsW := BMW.out.lt
        have hgW : g < W.heap.size := (HCW.out.lt _ rfl).2
        have hiW : i < W.heap.size := (HIW.out.lt _ rfl).2
        rw [← hW]
        clear hW d0 d1 d2 d3 d4 d5 d6 hgr hir q0 q1 f0 f1 hsr BMr hbr hcs
        obtain ⟨d0, d1, d2, d3, d4, d5, d6⟩ := BMW.out.q7
        go_wp2
        go_roundw
        case rel => exact ⟨j + 1, by omega, by go_num, Lib.hid (World.ownsRow.drew HCW.out), Lib.hid (World.ownsRow.drew HIW.out), Lib.hid hbW.out.drew, Lib.hid (hkW.out.trans (KeepI.of_ext (ext_drew (ext_refl _)))), Lib.hid (BMW.out.ext (ext_drew (ext_refl _)))⟩
        case measure => simp [intOf]; omega
      · have hC := Lib.hid (fCto_set (b := b) (ex := ex) hlt hz hy (v := 0) (by unfold fdC; rw [if_neg hex]; omega))
        have hI := Lib.hid (fIto_set (b := b) (ex := ex) hlt hz hy (v := -1) (by unfold fdI; rw [if_neg hex, if_pos (by omega)]))
        have hyg := Lib.hid (fIto_get (cl := cl) b ex hlt hy)
        clear hz hy hex
        go_upto_region 5 with fail
        go_region
        obtain ⟨W, hW⟩ : ∃ x : World, x = (wr.setCell ⟨g, j, none⟩ (.int .i64 (0))) := ⟨_, rfl⟩
        obtain ⟨cs, hcs⟩ := own_blk HCr.out
        have HCW := Lib.hid (show W.ownsRow B 3 1 (.slice (some ⟨g, 0, none⟩) n kc) n (intsV (fCto b ex cl im n (j + 1))) by rw [hW, ← hC.out]; exact int_set HCr.out)
        have HIW := Lib.hid (show W.ownsRow B 3 1 (.slice (some ⟨i, 0, none⟩) n ic) n (intsV (fIto b ex cl im n j)) by rw [hW]; exact own_setF (p := ⟨g, j, none⟩) HIr.out (by intro e; injection e with e; exact hne e.symm) _)
        have hbW := Lib.hid (show Below B w W by rw [hW]; exact hbr.out.setCell (p := ⟨g, j, none⟩) (HCr.out.lt _ rfl).1 _)
        have hkW := Lib.hid (show KeepI w W by rw [hW]; exact hkr.out.set (p := ⟨g, j, none⟩) hcs _)
        have BMW := Lib.hid (show Blk W w.heap.size 47 _ by rw [hW]; exact BMr.out.setF (p := ⟨g, j, none⟩) (by simp; omega) _)
        have qW := int_cell HCW.out (show (fCto b ex cl im n (j + 1))[j]? = some (0) by rw [← hC.out]; exact List.getElem?_set_self (by rw [fCto_len]; exact hlt))
        have fW := own_frozen HIW.out j
        have hsW := BMW.out.lt
        have hgW : g < W.heap.size := (HCW.out.lt _ rfl).2
        have hiW : i < W.heap.size := (HIW.out.lt _ rfl).2
        rw [← hW]
        clear hW d0 d1 d2 d3 d4 d5 d6 hgr hir q0 q1 f0 f1 hsr BMr hbr hcs
        obtain ⟨d0, d1, d2, d3, d4, d5, d6⟩ := BMW.out.q7
        obtain ⟨ds, hds⟩ := own_blk HIW.out
        have qW2 := int_cell HIW.out hyg.out
        go_wp2
        go_roundw
        case rel => exact ⟨j + 1, by omega, by go_num, Lib.hid (own_setF (p := ⟨i, j, none⟩) (World.ownsRow.drew HCW.out) (by intro e; injection e with e; exact hne e) _), Lib.hid (by rw [← hI.out]; exact int_set (World.ownsRow.drew HIW.out)), Lib.hid (hbW.out.drew.setCell (p := ⟨i, j, none⟩) (HIW.out.lt _ rfl).1 _), Lib.hid ((hkW.out.trans (KeepI.of_ext (ext_drew (ext_refl _)))).set (p := ⟨i, j, none⟩) hds _), Lib.hid ((BMW.out.ext (ext_drew (ext_refl _))).setF (p := ⟨i, j, none⟩) (by simp; omega) _)⟩
        case measure => simp [intOf]; omega
  · obtain rfl : j = n := by omega
    go_wp2
    refine bodyPost_ret (v := .tuple #[]) (by simp [results, Try.results153, go_sem]) rfl ?_
    exact ⟨rfl, HCr.out, HIr.out, hbr.out, hkr.out⟩
end Go.Proofs.Ytlkfffohjeoooaa
