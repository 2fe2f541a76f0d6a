/- l13All: all targets as frames. -/
import Derived.Deep.CutBlock
import Derived.Test.YtmfjaoljeildbaaVBsF
namespace Go.Proofs.Ytmfjaoljeildbaa
open Go.RowKit
set_option linter.unusedVariables false
set_option linter.unusedSimpArgs false
theorem info_frm : (Try.prog.info? 26).map (fun i => (i.zero, i.size, i.bytes)) = some (some (.agg #[.int .i64 0, .int .i64 0, .slice none 0 0]), 3, 40) := by kernel_rfl
theorem own_blk3 {w : World} {B x e : Nat} {a b c : Value} (h : Blk w x e #[a, b, c]) (hB : B ≤ x) : w.ownsRow B e 3 (.slice (some ⟨x, 0, none⟩) 1 1) 1 [a, b, c] :=
 ⟨by simp, .inr ⟨x, 1, #[a, b, c], rfl, hB, h, Nat.le_refl _, by unfold maxLen; omega, by simp, by simp⟩⟩
def frmsV (u lo : Int) (vals : List Value) : List Value := vals.flatMap fun v => [.int .i64 u, .int .i64 lo, v]
theorem frmsV_snoc (u lo : Int) (vals : List Value) (v : Value) : frmsV u lo (vals ++ [v]) = frmsV u lo vals ++ [.int .i64 u, .int .i64 lo, v] := by unfold frmsV; rw [List.flatMap_append]; rfl
/-- a row of frames: each of a kind, its rods a row of their own -/
def RetFrs (w : World) (u lo : Int) (r : Nat) (LL : List (List R2)) (e : Ending) (w' : World) : Prop := ∃ (A : Option Addr) (c : Nat) (vals : List Value), e = .returned (.slice A LL.length c) ∧ w'.ownsRow w.heap.size 26 3 (.slice A LL.length c) LL.length (frmsV u lo vals) ∧ Tgs w' w.heap.size r vals LL ∧ Below w.heap.size w w'
set_option maxRecDepth 100000 in
set_option maxHeartbeats 8000000 in
theorem l13All_any (u lo : Int) (A : Option Addr) (N c : Nat) (n : Int) (w : World) (hu : 0 ≤ u ∧ u ≤ 2) (hN : N ≤ 8) (h0 : 0 ≤ n) (h63 : n ≤ 9223372036854775807) :
 Calls Try.prog 46 #[frV u lo A N c, .int .i64 n] w (RetFrs w u lo N (tgP u lo N n)) := by
 obtain ⟨i0, hi, hz0, hz1, hz2⟩ := info_parts info_frm
 have BF := Lib.hid (Blk.born w #[.int .i64 u, .int .i64 lo, .slice A N c] 26 (H := w.heap.size) rfl)
 have hbx := Lib.hid (ext_alloc (ext_refl w) (.cells #[.int .i64 u, .int .i64 lo, .slice A N c] 26))
 have HT := Lib.hid (fun (w : World) => l13Targets_any u lo A N c hu N n w hN h0 h63)
 have hll := tgP_len (lo := lo) hu N n
 have hll2 : (tgP u lo N n).length ≤ 1679616 := Nat.le_trans hll (Nat.le_trans (Nat.pow_le_pow_right (by omega) hN) (by decide))
 obtain ⟨LL, hLL⟩ : ∃ o9, tgP u lo N n = o9 := ⟨_, rfl⟩
 rw [hLL] at HT hll2 ⊢
 unfold RetTg at HT
 clear hLL hll
 go_enter Try.func46, Try.ntmps46
 go_wp2_with fail
 refine (HT.out _).mono ?_
 rintro e w1 ⟨Ar, cr, vals, rfl, hor, htr, hb1⟩
 have hs1 := hb1.size
 have hs0 := hbx.out.size
 obtain ⟨W1, hW1⟩ : ∃ y : World, y = w1.alloc (.cells #[] 26) := ⟨_, rfl⟩
 have BF1 := Lib.hid (show Blk W1 w.heap.size 26 #[.int .i64 u, .int .i64 lo, .slice A N c] by rw [hW1]; exact (BF.out.ext hb1).al _)
 have HR1 := Lib.hid (show W1.ownsRow w.heap.size 24 1 (.slice Ar LL.length cr) LL.length vals by rw [hW1]; exact (own_base hor (by simp)).alloc _)
 have HRT1 := Lib.hid (show Tgs W1 w.heap.size N vals LL by rw [hW1]; exact (htr.base (by simp)).ext (ext_alloc (ext_refl _) _))
 have HO1 := Lib.hid (show W1.ownsRow (w.heap.size + 1) 26 3 (.slice (some ⟨w1.heap.size, 0, none⟩) 0 0) 0 (frmsV u lo []) by rw [hW1]; exact own_lit_at w1 26 3 rfl (by simp at hs1; omega))
 have hbb1 := Lib.hid (show Below w.heap.size w W1 by rw [hW1]; exact ext_alloc (ext_trans hbx.out hb1) _)
 have hvl := htr.1
 go_upto_region 2 with fail
 rw [← hW1]
 clear hW1 hor htr hb1 hs1 hs0 BF hbx HT
 go_wp2
 go_loopw [6, 7] (fun ov iv wr => ∃ (i : Nat) (Ao : Option Addr) (co : Nat), i ≤ LL.length ∧ iv = .int .i64 (i : Int) ∧ ov = .slice Ao i co ∧ Hid (wr.ownsRow (w.heap.size + 1) 26 3 (.slice Ao i co) i (frmsV u lo (vals.take i))) ∧ Hid (wr.ownsRow w.heap.size 24 1 (.slice Ar LL.length cr) LL.length vals) ∧ Hid (Tgs wr w.heap.size N vals LL) ∧ Hid (Blk wr w.heap.size 26 #[.int .i64 u, .int .i64 lo, .slice A N c]) ∧ Hid (Below w.heap.size w wr)) (fun _ iv _ => LL.length - (intOf iv).toNat)
 case atStart => exact ⟨0, _, _, Nat.zero_le _, rfl, rfl, HO1, HR1, HRT1, BF1, hbb1⟩
 case round =>
  clear HO1 HR1 HRT1 BF1 hbb1
  obtain ⟨i, Ao, co, hi9, rfl, rfl, HO, HR, HRT, BF, hb⟩ := hrel
  obtain ⟨W, hW⟩ : ∃ y : World, y = wr := ⟨_, rfl⟩
  subst hW
  by_cases hlt : i < LL.length
  · obtain ⟨t, ht⟩ := list_split (l := LL) (k := i) hlt
    obtain ⟨htl, At, ct, hvr, hto⟩ := HRT.out.2 i t ht
    obtain ⟨br, cr', hB, hLw, hLl⟩ := HR.out.form (by omega)
    injection hB with hB _ hB2
    subst hB hB2
    have hc1 : W.cell? ⟨br, i, none⟩ = some (.slice At N ct) := by rw [HR.out.cellAt i (by omega)]; exact hvr
    have hi1 : (i : Int) < (LL.length : Int) := by omega
    have hi0 : (0 : Int) ≤ (i : Int) := by omega
    obtain ⟨f0, f1, f2⟩ := BF.out.q3
    have lF := BF.out.lt
    have hVT := Lib.hid (show vals.take (i + 1) = vals.take i ++ [.slice At N ct] by rw [List.take_add_one, hvr]; rfl)
    have m1 : i + 1 ≤ maxLen := by unfold maxLen; omega
    have m2 : (i + 1) * 40 ≤ 140737488355328 := by omega
    have hbV := hb.out.size
    have x1 := World.ownsRow.drew (HO.out.alloc (.cells #[.int .i64 u, .int .i64 lo, .slice At N ct] 26))
    have x2 := World.ownsRow.drew (own_blk3 (Blk.born W #[.int .i64 u, .int .i64 lo, .slice At N ct] 26 (H := W.heap.size) rfl) (B := w.heap.size) hbV)
    have x3 : w.heap.size + 1 ≤ (W.alloc (.cells #[.int .i64 u, .int .i64 lo, .slice At N ct] 26)).drew.heap.size := Nat.le_trans (Nat.succ_le_of_lt lF) (ext_alloc (ext_refl W) _).size
    have x4 : Below W.heap.size W (W.alloc (.cells #[.int .i64 u, .int .i64 lo, .slice At N ct] 26)).drew := ext_drew (ext_alloc (ext_refl W) _)
    have x5 : ∀ z ∈ [Value.int .i64 u, Value.int .i64 lo, Value.slice At N ct], z.oneCell' = true := by
     intro z hz
     rcases List.mem_cons.1 hz with rfl | hz
     · rfl
     rcases List.mem_cons.1 hz with rfl | hz
     · rfl
     rcases List.mem_cons.1 hz with rfl | hz
     · rfl
     cases hz
    clear hvr hto htl ht
    go_upto_region 5 with fail
    go_region_law (first
     | (refine step_appO rfl (.tmp 21) (.tmp 31) 57 rfl (w.heap.size + 1) 26 i0 _ 3 40 Try.underlying57 hi hz0 hz1 hz2 rfl (by decide) (.slice Ao i co) i (frmsV u lo (vals.take i)) rfl x1 (some ⟨W.heap.size, 0, none⟩) 1 1 [.int .i64 u, .int .i64 lo, .slice At N ct] rfl w.heap.size x2 x5 m1 m2 x3 ?_; intro A4 c4 w4 hown4 hgrow4; rw [← frmsV_snoc, ← hVT.out] at hown4; have HO4 := Lib.hid hown4; have HG4 := Lib.hid hgrow4; clear hown4 hgrow4))
    all_goals
     have hb4 := Lib.hid (below_grown' (own_base x1 (Nat.le_succ _)) (Nat.le_refl _) (ext_trans hb.out x4) HG4.out)
     have HR4 := Lib.hid ((own_ext HR.out x4).kept HG4.out (own_neT (own_ext HR.out x4) x1 (by decide)))
     have HRT4 := Lib.hid ((HRT.out.ext x4).kept x1 (by decide) HG4.out)
     have BF4 := Lib.hid ((BF.out.ext x4).grownF HG4.out (fun e => by have := (x1.lt _ e).1; omega))
     clear x1 x2 x3 x4 x5 HG4 HO HR HRT BF hb f0 f1 f2 lF hc1
     go_wp2
     go_roundw
     case rel => exact ⟨i + 1, A4, c4, by omega, by go_num, rfl, HO4, HR4, HRT4, BF4, hb4⟩
     case measure => simp [intOf]; omega
  · obtain rfl : i = LL.length := by omega
    have HO2 := Lib.hid (show W.ownsRow w.heap.size 26 3 (.slice Ao LL.length co) LL.length (frmsV u lo vals) by have h9 := own_base (base' := w.heap.size) HO.out (Nat.le_succ _); rwa [List.take_of_length_le (by omega)] at h9)
    go_wp2
    go_ret
    exact ⟨Ao, co, vals, rfl, HO2.out, HRT.out, hb.out⟩
end Go.Proofs.Ytmfjaoljeildbaa
