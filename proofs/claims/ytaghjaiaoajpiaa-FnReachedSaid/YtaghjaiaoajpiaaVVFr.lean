/- The laws' comparisons of frames. -/
import Derived.Test.YtaghjaiaoajpiaaVM3
import Derived.Test.YtaghjaiaoajpiaaVM4
import Derived.Test.YtaghjaiaoajpiaaVM1
import Derived.Test.YtaghjaiaoajpiaaVRegL
namespace Go.Proofs.Ytaghjaiaoajpiaa
open Go.RowKit
set_option linter.unusedVariables false
set_option linter.unusedSimpArgs false
theorem eqRod (a b c d : Int) (w : World) : (Op.equalIn 10000 42 (.agg #[.int .i64 a, .int .i64 b]) (.agg #[.int .i64 c, .int .i64 d])).run Try.prog w = .ok (a == c && b == d) w := by
 have u3 := Try.underlying3
 have a3 := Try.isAgg3
 have z3 := Try.sizeOf3
 rw [show (10000 : Nat) = 9999 + 1 from rfl, Op.equalIn]
 simp only [Sem.run_bind, run_underlying Try.underlying42, Result.andThen_ok]
 simp only [Std.Legacy.Range.forIn_eq_forIn_range', Std.Legacy.Range.size, Nat.sub_zero, Nat.add_sub_cancel, Nat.div_one, List.range'_succ, List.range'_zero, List.forIn_cons, List.forIn_nil]
 go_simp
 by_cases h1 : a = c <;> by_cases h2 : b = d <;> simp [h1, h2]
def VpA (S : Nat) (b o b2 o2 k n c d : Nat) (r : R2) (vs : Nat → Value) (wx : World) : Nat → Prop
 | 0 => vs 17 = .slice (some ⟨b, o, none⟩) n c
 | 1 => vs 18 = .int .i64 (k : Int)
 | 2 => vs 19 = .pointer (some ⟨b, o + k * 2, none⟩)
 | 3 => vs 20 = .agg #[.int .i64 r.a, .int .i64 r.b]
 | 4 => vs 21 = .slice (some ⟨b2, o2, none⟩) n d
 | 5 => vs 22 = .int .i64 (k : Int)
 | 6 => vs 23 = .pointer (some ⟨b2, o2 + k * 2, none⟩)
 | 7 => vs 24 = .agg #[.int .i64 r.a, .int .i64 r.b]
 | 8 => vs 25 = .bool false
 | _ => True
def VpAU : Nat → List Nat
 | 0 => [17]
 | 1 => [18]
 | 2 => [19]
 | 3 => [20]
 | 4 => [21]
 | 5 => [22]
 | 6 => [23]
 | 7 => [24]
 | 8 => [25]
 | _ => []
theorem VpA_ext {S : Nat} {b o b2 o2 k n c d : Nat} {r : R2} {vs us : Nat → Value} {wx wy : World} {jN : Nat} (hGG : VpA S b o b2 o2 k n c d r vs wx jN) (haG : ∀ d ∈ VpAU jN, us d = vs d) (hbG : Below wx.heap.size wx wy) : VpA S b o b2 o2 k n c d r us wy jN := by
 match jN, hGG, haG with
 | 0, hGG, haG =>
   exact (haG 17 (by simp [VpAU])).trans hGG
 | 1, hGG, haG =>
   exact (haG 18 (by simp [VpAU])).trans hGG
 | 2, hGG, haG =>
   exact (haG 19 (by simp [VpAU])).trans hGG
 | 3, hGG, haG =>
   exact (haG 20 (by simp [VpAU])).trans hGG
 | 4, hGG, haG =>
   exact (haG 21 (by simp [VpAU])).trans hGG
 | 5, hGG, haG =>
   exact (haG 22 (by simp [VpAU])).trans hGG
 | 6, hGG, haG =>
   exact (haG 23 (by simp [VpAU])).trans hGG
 | 7, hGG, haG =>
   exact (haG 24 (by simp [VpAU])).trans hGG
 | 8, hGG, haG =>
   exact (haG 25 (by simp [VpAU])).trans hGG
 | jN + 9, _, _ => trivial
theorem VpA_set {S : Nat} {b o b2 o2 k n c d : Nat} {r : R2} {vs us : Nat → Value} {wx wy : World} {jN : Nat} (hGG : VpA S b o b2 o2 k n c d r vs wx jN) (haG : ∀ d ∈ VpAU jN, us d = vs d) (hneG : jN ≠ 9) (hbG : KeepW 26 wx wy) : VpA S b o b2 o2 k n c d r us wy jN := by
 match jN, hGG, haG, hneG with
 | 0, hGG, haG, hneG =>
   exact (haG 17 (by simp [VpAU])).trans hGG
 | 1, hGG, haG, hneG =>
   exact (haG 18 (by simp [VpAU])).trans hGG
 | 2, hGG, haG, hneG =>
   exact (haG 19 (by simp [VpAU])).trans hGG
 | 3, hGG, haG, hneG =>
   exact (haG 20 (by simp [VpAU])).trans hGG
 | 4, hGG, haG, hneG =>
   exact (haG 21 (by simp [VpAU])).trans hGG
 | 5, hGG, haG, hneG =>
   exact (haG 22 (by simp [VpAU])).trans hGG
 | 6, hGG, haG, hneG =>
   exact (haG 23 (by simp [VpAU])).trans hGG
 | 7, hGG, haG, hneG =>
   exact (haG 24 (by simp [VpAU])).trans hGG
 | 8, hGG, haG, hneG =>
   exact (haG 25 (by simp [VpAU])).trans hGG
 | jN + 9, _, _, _ => trivial
set_option maxRecDepth 100000 in
set_option maxHeartbeats 1000000 in
theorem vPairs_same (A B : Option Addr) (n c d : Nat) (l : List R2) (w : World) (hn : n ≤ 1048576) (h : Reads w w.heap.size 2 A n (rowsV2 l)) (h' : Reads w w.heap.size 2 B n (rowsV2 l)) :
 Calls Try.prog 16 #[.slice A n c, .slice B n d] w fun e w' => e = .returned (.bool true) ∧ Below w.heap.size w w' := by
 have hl := rows_len2 h
 have H := Lib.hid h
 have H' := Lib.hid h'
 have HL := Lib.hid hl
 clear h h' hl
 go_enter Try.func16, Try.ntmps16
 go_wp2
 go_loopw [5] (fun i wr => ∃ k : Nat, k ≤ n ∧ i = .int .i64 k ∧ Hid (Below w.heap.size w wr)) (fun i _ => n - (intOf i).toNat)
 case atStart => exact ⟨0, Nat.zero_le _, rfl, Lib.hid (ext_refl _)⟩
 case round =>
  obtain ⟨k, hk, rfl, hbl⟩ := hrel
  by_cases hlt : k < n
  · obtain ⟨r, hr⟩ := list_split (l := l) (k := k) (by rw [HL.out]; exact hlt)
    obtain ⟨b, o, rfl, hb, c0, c1⟩ := rows_at2 (H.out.ext hbl.out (Nat.le_refl _)) hr
    obtain ⟨b2, o2, rfl, hb', d0, d1⟩ := rows_at2 (H'.out.ext hbl.out (Nat.le_refl _)) hr
    have s0 := hbl.out.size
    have hk1 : (k : Int) < (n : Int) := by omega
    have hk0 : (0 : Int) ≤ (k : Int) := by omega
    have hb2 : b < wr.heap.size := by omega
    have hb3 : b2 < wr.heap.size := by omega
    clear hr
    obtain ⟨W0, hW0⟩ : ∃ y : World, y = wr := ⟨_, rfl⟩
    subst hW0
    go_upto_region 6 with fail
    refine wp_region_left (by kernel_rfl) (by kernel_rfl) [17, 18, 19, 20, 21, 22, 23, 24, 25] VpAU (by kernel_rfl) (by decide) 26 (by kernel_rfl) (by simp) (fun ra0 => ra0.eval (.tmp 0) = .slice (some ⟨b, o, none⟩) n c ∧ ra0.eval (.tmp 1) = .slice (some ⟨b2, o2, none⟩) n d ∧ ra0.eval (.tmp 5) = .int .i64 (k : Int)) ⟨by kernel_rfl, by kernel_rfl, by kernel_rfl⟩ (fun _ wx => Below W0.heap.size W0 wx) (fun wx wy => Below wx.heap.size wx wy) 9 (KeepW 26) (fun jN vs wx => VpA W0.heap.size b o b2 o2 k n c d r vs wx jN) ((ext_refl W0).drew) (fun _ _ _ _ _ h1 h2 h3 => VpA_ext h1 h2 h3) (fun _ _ _ _ _ h0 h1 h2 h3 => VpA_set h1 h2 h0 h3) ?_ ?_
    · intro ra0 hE ri ro ho Qx vs wx rb KX kk HBw hdep rb0 rbk HK
      repeat (rename_i hz9; clear hz9)
      obtain ⟨rq0, rq1, rq5⟩ := hE
      have hi : ri < 9 := by
       rcases Nat.lt_or_ge ri 9 with h | h
       · exact h
       · rw [Array.getElem?_eq_none (by simpa using h)] at ho; cases ho
      have HBX := Lib.hid HBw
      have hsz := HBw.size
      clear HBw
      rcases (show ri = 0 ∨ ri = 1 ∨ ri = 2 ∨ ri = 3 ∨ ri = 4 ∨ ri = 5 ∨ ri = 6 ∨ ri = 7 ∨ ri = 8 by omega) with rfl | rfl | rfl | rfl | rfl | rfl | rfl | rfl | rfl
      · simp only [List.getElem?_toArray, List.getElem?_cons_succ, List.getElem?_cons_zero, Option.some.injEq] at ho
        subst ho
        have HKX := Lib.hid HK
        clear HK
        have p0 := (rb0 0 (by decide)).trans rq0
        have u0 := ext_cell HBX.out c0
        have u1 := ext_cell HBX.out c1
        have v0 := ext_cell HBX.out d0
        have v1 := ext_cell HBX.out d1
        have lb := Nat.lt_of_lt_of_le hb2 hsz
        have lb2 := Nat.lt_of_lt_of_le hb3 hsz
        clear rb0 rbk hdep
        go_simp
        exact HKX.out _ _ HBX.out (by rw [if_neg (by decide)]; exact ext_refl _) (upd_same _ _ _)
      · simp only [List.getElem?_toArray, List.getElem?_cons_succ, List.getElem?_cons_zero, Option.some.injEq] at ho
        subst ho
        have HKX := Lib.hid HK
        clear HK
        have p5 := (rb0 5 (by decide)).trans rq5
        have u0 := ext_cell HBX.out c0
        have u1 := ext_cell HBX.out c1
        have v0 := ext_cell HBX.out d0
        have v1 := ext_cell HBX.out d1
        have lb := Nat.lt_of_lt_of_le hb2 hsz
        have lb2 := Nat.lt_of_lt_of_le hb3 hsz
        clear rb0 rbk hdep
        go_simp
        exact HKX.out _ _ HBX.out (by rw [if_neg (by decide)]; exact ext_refl _) (upd_same _ _ _)
      · simp only [List.getElem?_toArray, List.getElem?_cons_succ, List.getElem?_cons_zero, Option.some.injEq] at ho
        subst ho
        have HKX := Lib.hid HK
        clear HK
        have e0 : vs 17 = .slice (some ⟨b, o, none⟩) n c := (hdep 0 (by kernel_rfl))
        have e1 : vs 18 = .int .i64 (k : Int) := (hdep 1 (by kernel_rfl))
        have rr0 := (rbk 17 (by decide)).trans e0
        have rr1 := (rbk 18 (by decide)).trans e1
        have E0 := Lib.hid e0
        clear e0
        have E1 := Lib.hid e1
        clear e1
        clear rb0 rbk hdep
        go_simp
        exact HKX.out _ _ HBX.out (by rw [if_neg (by decide)]; exact ext_refl _) (upd_same _ _ _)
      · simp only [List.getElem?_toArray, List.getElem?_cons_succ, List.getElem?_cons_zero, Option.some.injEq] at ho
        subst ho
        have HKX := Lib.hid HK
        clear HK
        have e2 : vs 19 = .pointer (some ⟨b, o + k * 2, none⟩) := (hdep 2 (by kernel_rfl))
        have p0 := (rb0 0 (by decide)).trans rq0
        have rr2 := (rbk 19 (by decide)).trans e2
        have E2 := Lib.hid e2
        clear e2
        have u0 := ext_cell HBX.out c0
        have u1 := ext_cell HBX.out c1
        have v0 := ext_cell HBX.out d0
        have v1 := ext_cell HBX.out d1
        have lb := Nat.lt_of_lt_of_le hb2 hsz
        have lb2 := Nat.lt_of_lt_of_le hb3 hsz
        clear rb0 rbk hdep
        go_simp
        exact HKX.out _ _ HBX.out (by rw [if_neg (by decide)]; exact ext_refl _) (upd_same _ _ _)
      · simp only [List.getElem?_toArray, List.getElem?_cons_succ, List.getElem?_cons_zero, Option.some.injEq] at ho
        subst ho
        have HKX := Lib.hid HK
        clear HK
        have p1 := (rb0 1 (by decide)).trans rq1
        have u0 := ext_cell HBX.out c0
        have u1 := ext_cell HBX.out c1
        have v0 := ext_cell HBX.out d0
        have v1 := ext_cell HBX.out d1
        have lb := Nat.lt_of_lt_of_le hb2 hsz
        have lb2 := Nat.lt_of_lt_of_le hb3 hsz
        clear rb0 rbk hdep
        go_simp
        exact HKX.out _ _ HBX.out (by rw [if_neg (by decide)]; exact ext_refl _) (upd_same _ _ _)
      · simp only [List.getElem?_toArray, List.getElem?_cons_succ, List.getElem?_cons_zero, Option.some.injEq] at ho
        subst ho
        have HKX := Lib.hid HK
        clear HK
        have p5 := (rb0 5 (by decide)).trans rq5
        have u0 := ext_cell HBX.out c0
        have u1 := ext_cell HBX.out c1
        have v0 := ext_cell HBX.out d0
        have v1 := ext_cell HBX.out d1
        have lb := Nat.lt_of_lt_of_le hb2 hsz
        have lb2 := Nat.lt_of_lt_of_le hb3 hsz
        clear rb0 rbk hdep
        go_simp
        exact HKX.out _ _ HBX.out (by rw [if_neg (by decide)]; exact ext_refl _) (upd_same _ _ _)
      · simp only [List.getElem?_toArray, List.getElem?_cons_succ, List.getElem?_cons_zero, Option.some.injEq] at ho
        subst ho
        have HKX := Lib.hid HK
        clear HK
        have e4 : vs 21 = .slice (some ⟨b2, o2, none⟩) n d := (hdep 4 (by kernel_rfl))
        have e5 : vs 22 = .int .i64 (k : Int) := (hdep 5 (by kernel_rfl))
        have rr4 := (rbk 21 (by decide)).trans e4
        have rr5 := (rbk 22 (by decide)).trans e5
        have E4 := Lib.hid e4
        clear e4
        have E5 := Lib.hid e5
        clear e5
        clear rb0 rbk hdep
        go_simp
        exact HKX.out _ _ HBX.out (by rw [if_neg (by decide)]; exact ext_refl _) (upd_same _ _ _)
      · simp only [List.getElem?_toArray, List.getElem?_cons_succ, List.getElem?_cons_zero, Option.some.injEq] at ho
        subst ho
        have HKX := Lib.hid HK
        clear HK
        have e6 : vs 23 = .pointer (some ⟨b2, o2 + k * 2, none⟩) := (hdep 6 (by kernel_rfl))
        have p1 := (rb0 1 (by decide)).trans rq1
        have rr6 := (rbk 23 (by decide)).trans e6
        have E6 := Lib.hid e6
        clear e6
        have u0 := ext_cell HBX.out c0
        have u1 := ext_cell HBX.out c1
        have v0 := ext_cell HBX.out d0
        have v1 := ext_cell HBX.out d1
        have lb := Nat.lt_of_lt_of_le hb2 hsz
        have lb2 := Nat.lt_of_lt_of_le hb3 hsz
        clear rb0 rbk hdep
        go_simp
        exact HKX.out _ _ HBX.out (by rw [if_neg (by decide)]; exact ext_refl _) (upd_same _ _ _)
      · simp only [List.getElem?_toArray, List.getElem?_cons_succ, List.getElem?_cons_zero, Option.some.injEq] at ho
        subst ho
        have HKX := Lib.hid HK
        clear HK
        have e3 : vs 20 = .agg #[.int .i64 r.a, .int .i64 r.b] := (hdep 3 (by kernel_rfl))
        have e7 : vs 24 = .agg #[.int .i64 r.a, .int .i64 r.b] := (hdep 7 (by kernel_rfl))
        have rr3 := (rbk 20 (by decide)).trans e3
        have rr7 := (rbk 24 (by decide)).trans e7
        have E3 := Lib.hid e3
        clear e3
        have E7 := Lib.hid e7
        clear e7
        clear rb0 rbk hdep
        go_simp
        rw [eqRod]
        go_simp
        exact HKX.out _ _ HBX.out (by rw [if_neg (by decide)]; exact ext_refl _) (upd_same _ _ _)
    intro vs wx kk hb hall
    have e8 : vs 25 = .bool false := hall 8 (by decide)
    have hbl2 := Lib.hid (ext_trans hbl.out hb)
    clear hall
    simp only [sl]
    rw [e8]
    simp only [Act.put, List.setIfInBounds_toArray, List.set_cons_succ, List.set_cons_zero]
    clear e8
    go_wp2
    go_roundw
    case rel => exact ⟨k + 1, by omega, by go_num, hbl2⟩
    case measure => simp [intOf]; omega
  · obtain rfl : k = n := by omega
    go_wp2
    go_ret
    exact ⟨rfl, hbl.out⟩
set_option maxRecDepth 100000 in
theorem vFrame_same (u lo : Int) (A B : Option Addr) (n c d : Nat) (l : List R2) (w : World) (hn : n ≤ 1048576) (h : Reads w w.heap.size 2 A n (rowsV2 l)) (h' : Reads w w.heap.size 2 B n (rowsV2 l)) :
 Calls Try.prog 20 #[frV u lo A n c, frV u lo B n d] w fun e w' => e = .returned (.bool true) ∧ Below w.heap.size w w' := by
 have HE := Lib.hid (fun (w : World) h h' => vPairs_same A B n c d l w hn h h')
 have H := Lib.hid h
 have H' := Lib.hid h'
 have hu : (u == u) = true := by simp
 have hlo : (lo == lo) = true := by simp
 have hbx := Lib.hid (ext_alloc (ext_alloc (ext_refl w) (.cells #[.int .i64 u, .int .i64 lo, .slice A n c] 26)) (.cells #[.int .i64 u, .int .i64 lo, .slice B n d] 26))
 clear h h'
 go_enter Try.func20, Try.ntmps20
 go_wp2_with fail
 refine (HE.out _ (rdx H.out hbx.out) (rdx H'.out hbx.out)).mono ?_
 rintro e w1 ⟨rfl, hb⟩
 go_wp2
 go_ret
 exact ⟨rfl, ext_trans hbx.out hb⟩
end Go.Proofs.Ytaghjaiaoajpiaa
