/- A law's argument that is a code. -/
import Derived.Test.YtkcbgiegoadkbaaVLaw
import Derived.Test.YtkcbgiegoadkbaaVM1
import Derived.Test.YtkcbgiegoadkbaaVPar
import Derived.Test.YtkcbgiegoadkbaaVScTa
import Derived.Laws.CopyOwn
namespace Go.Proofs.Ytkcbgiegoadkbaa
open Go.ChangeShapes Go.WideShapes Go.ChangeAt Go.RowKit Go.Deep Go.Joins
set_option maxRecDepth 100000 in
theorem open_code {H : Type} {enc : TypeId × Value → H} {w : World} {base b0 : Nat} {spare : Nat → Bool} {held : Bool} {r : Reach} {v : Value} {d : DataW H} {p : List MemPlace}
 (hv : Value.okWide Try.prog w r b0 22 v) (h : DataW.Trod enc Try.prog w base spare held 22 v d p) :
 ∃ (A : Option Addr) (n c : Nat), v = .slice A n c ∧ n ≤ maxLen ∧ Code w w.heap.size A n := by
 obtain ⟨a0, len, cap, rfl⟩ := okWide_slice Try.underlying22 hv
 obtain ⟨fuel, hf⟩ := h
 rcases open_ints Try.underlying22 Try.underlying5 (by kernel_rfl) hf with ⟨hcs, _⟩ | ⟨a, len', cap', zs, hcs, hb, hl, hm, hz, hx, hc, hw⟩
 · have hcs : [Value.slice a0 len cap] = [.slice none 0 0] := by simpa [Value.cells] using hcs
   injection hcs with hcs _
   injection hcs with h1 h2 h3
   subst h1 h2 h3
   exact ⟨none, 0, 0, rfl, Nat.zero_le _, fun h => absurd h (by omega)⟩
 · have hcs : [Value.slice a0 len cap] = [.slice (some a) len' cap'] := by simpa [Value.cells] using hcs
   injection hcs with hcs _
   injection hcs with h1 h2 h3
   subst h1 h2 h3
   have hlz : len ≤ zs.length := by rw [hz]; split <;> omega
   refine ⟨some a, len, cap, rfl, by omega, fun h0 => ?_⟩
   have c0 := hc 0 (by omega)
   rw [show a.add 0 = a from by simp [Addr.add]] at c0
   obtain ⟨b, o, rfl⟩ := plain_of_cell c0
   refine ⟨b, o, rfl, World.block_lt_of_cell? w _ c0, fun i hi => ⟨zs.getD i 0, ?_, ?_⟩⟩
   · have := hc i (by omega)
     rwa [add_flat] at this
   · have hm2 : zs.getD i 0 ∈ zs := by
      simp only [List.getD]
      rw [List.getElem?_eq_getElem (by omega)]
      simp
     have := hw _ hm2
     simpa [Lit.wf, IntKind.min, IntKind.max, IntKind.signed, IntKind.bits] using this
end Go.Proofs.Ytkcbgiegoadkbaa
namespace Go.Proofs.Ytkcbgiegoadkbaa
open Go.RowKit
set_option linter.unusedVariables false
set_option linter.unusedSimpArgs false
def numV (s : ByteArray) : Nat := (numO (bl s)).getD 0
theorem numO_of {l : List UInt8} (h0 : l.length ≠ 0) (h9 : ¬ 9 < l.length) (hz : ¬ (l[0]? = some 48 ∧ 1 < l.length)) (hd : l.all isD = true) : numO l = some (valL l) := by
 unfold numO
 rw [if_neg]
 rintro (h | h | h | h)
 · exact h0 h
 · exact h9 h
 · exact hz h
 · rw [hd] at h; cases h
theorem all_succ {l : List UInt8} {k : Nat} {c : UInt8} (hc : l[k]? = some c) (h : (l.take k).all isD = true) (hd : isD c = true) : (l.take (k + 1)).all isD = true := by
 rw [List.take_add_one, hc]
 simp [h, hd]
theorem all_not {l : List UInt8} {k : Nat} {c : UInt8} (hc : l[k]? = some c) (hd : isD c = false) : l.all isD = false := by
 rw [Bool.eq_false_iff]
 intro h
 rw [List.all_eq_true] at h
 have := h c (List.mem_of_getElem? hc)
 rw [hd] at this; cases this
theorem val_succ {l : List UInt8} {k h : Nat} {c : UInt8} (hc : l[k]? = some c) (hv : valL (l.take k) = h) : valL (l.take (k + 1)) = 10 * h + (c.toNat - 48) := by
 rw [List.take_add_one, hc, ← hv]
 exact valL_snoc _ _
theorem val_bound {l : List UInt8} {k : Nat} (hk : k ≤ 9) (hd : (l.take k).all isD = true) : valL (l.take k) < 1000000000 := by
 have h1 := valL_lt (l.take k).length _ rfl hd
 have h2 : (10 : Nat) ^ (l.take k).length ≤ 10 ^ 9 := Nat.pow_le_pow_right (by omega) (by have := List.length_take_le k l; omega)
 omega
theorem isD_cases (c : UInt8) : (isD c = true ∧ 48 ≤ c.toNat ∧ c.toNat ≤ 57) ∨ (isD c = false ∧ c.toNat < 48) ∨ (isD c = false ∧ 48 ≤ c.toNat ∧ 57 < c.toNat) := by
 simp [isD]
 omega
theorem bl_zero {s : ByteArray} (h : 0 < s.size) {v : UInt8} : (bl s)[0]? = some v ↔ s[0].toNat = v.toNat := by
 rw [bl_get h]
 constructor
 · intro e; injection e with e; rw [e]
 · intro e; rw [UInt8.toNat_inj.1 e]
def NumRetO (o : Option Nat) (w : World) (e : Ending) (w' : World) : Prop := e = .returned (.tuple #[.int .i64 ((o.getD 0 : Nat) : Int), .bool o.isSome]) ∧ w = w'
def ParRet (o : Option Int) (w : World) (e : Ending) (w' : World) : Prop := e = .returned (.tuple #[.int .i64 (o.getD 0), .bool o.isSome]) ∧ Below w.heap.size w w'
theorem parT_yes {s : ByteArray} (h : parB (bl s) = true) : bl (s.extract 1 s.size) = parT (bl s) := by
 rw [bl_extract, parT, if_pos h, List.take_of_length_le (by rw [bl_size]; exact Nat.le_refl _)]
theorem parT_no {s : ByteArray} (h : parB (bl s) = false) : bl s = parT (bl s) := by
 rw [parT, if_neg (by rw [h]; simp)]
theorem parO_of {s : ByteArray} {n : Nat} (h : numO (parT (bl s)) = some n) : parO s = if 999999 < n ∨ (n = 0 ∧ parB (bl s) = true) then none else some (if parB (bl s) = true then -(n : Int) else n) := by
 simp [parO, h]
theorem parB_size {s : ByteArray} (h : parB (bl s) = true) : 0 < s.size := by
 rw [← bl_size]
 rcases hl : bl s with _ | ⟨c, l⟩
 · rw [hl] at h; simp [parB] at h
 · simp
end Go.Proofs.Ytkcbgiegoadkbaa
namespace Go.Proofs.Ytkcbgiegoadkbaa
open Go.RowKit
set_option linter.unusedVariables false
set_option linter.unusedSimpArgs false
theorem rowsV_app (a b : List R5) : rowsV (a ++ b) = rowsV a ++ rowsV b := by simp [rowsV]
theorem own_prefix {w : World} {base e n c g i : Nat} {l : List R5} (h : w.ownsRow base e 5 (.slice (some ⟨g, 0, none⟩) n c) n (rowsV l)) (hi : i ≤ n) : w.ownsRow base e 5 (.slice (some ⟨g, 0, none⟩) i c) i (rowsV (l.take i)) := by
 have hl : l.length = n := by have := h.1; rw [rowsV_len] at this; omega
 have hlen : (rowsV (l.take i)).length = i * 5 := by rw [rowsV_len, List.length_take, hl, Nat.min_eq_left hi]
 rcases h.2 with ⟨h', _⟩ | ⟨g', cap', cur, h', hb, hg, hnc, hcm, hcs, htake⟩
 · simp at h'
 · simp only [Value.slice.injEq, Option.some.injEq, Addr.mk.injEq, and_true, true_and] at h'
   obtain ⟨rfl, rfl⟩ := h'
   refine ⟨hlen, .inr ⟨g, c, cur, rfl, hb, hg, by omega, hcm, hcs, ?_⟩⟩
   have e1 : rowsV l = rowsV (l.take i) ++ rowsV (l.drop i) := by rw [← rowsV_app, List.take_append_drop]
   have : (cur.toList.take (n * 5)).take (i * 5) = (rowsV l).take (i * 5) := by rw [htake]
   rw [List.take_take, Nat.min_eq_left (by omega)] at this
   rw [this, e1, ← hlen, List.take_left]
theorem rows_drop_cells {w : World} {base e n c g i : Nat} {l : List R5} (h : w.ownsRow base e 5 (.slice (some ⟨g, 0, none⟩) n c) n (rowsV l)) (ad : Addr) (hi : i ≤ n) (had : i < n → ad = ⟨g, i * 5, none⟩) :
 ∀ j u, (rowsV (l.drop i))[j]? = some u → w.cell? (ad.add j) = some u := by
 have hl : l.length = n := by have := h.1; rw [rowsV_len] at this; omega
 intro j u hj
 have hlt := (List.getElem?_eq_some_iff.1 hj).1
 rw [rowsV_len, List.length_drop, hl] at hlt
 have hin : i < n := by omega
 rw [had hin, add_flat, h.cellAt _ (by omega)]
 have e1 : rowsV l = rowsV (l.take i) ++ rowsV (l.drop i) := by rw [← rowsV_app, List.take_append_drop]
 have hlen : (rowsV (l.take i)).length = i * 5 := by rw [rowsV_len, List.length_take, hl, Nat.min_eq_left hi]
 rw [e1, List.getElem?_append_right (by omega), hlen, show i * 5 + j - i * 5 = j from by omega, hj]
theorem rows_erase (l : List R5) (i : Nat) : rowsV (l.take i) ++ rowsV (l.drop (i + 1)) = rowsV (l.eraseIdx i) := by
 rw [List.eraseIdx_eq_take_drop_succ]; simp [rowsV]
set_option maxRecDepth 100000 in
set_option maxHeartbeats 2000000 in
theorem taught_6 (day pa le id v : Int) (g n c base i : Nat) (l : List R5) (r : R5) (w : World) (h : w.ownsRow base 55 5 (.slice (some ⟨g, 0, none⟩) n c) n (rowsV l)) (hr : l[i]? = some r) (hs : stuB r = true) (hday : 0 ≤ day ∧ day ≤ 4000) (hpa : 0 ≤ pa ∧ pa ≤ 9999) (hlf : 0 ≤ le ∧ le ≤ 9999) (hg : g < w.heap.size) (hn : n ≤ 8) :
 Calls Try.prog 37 #[schV day (some ⟨g, 0, none⟩) n c pa le, .agg #[.int .i64 6, .int .i64 id, .int .i64 v], .int .i64 i] w (RetT (teach day pa le l i r 6 v) day base (some ⟨g, 0, none⟩) n c w) := by
 obtain ⟨c0, c1, c2, c3, c4⟩ := own_cells h hr
 obtain ⟨q1, q2, q3, q4, q5⟩ := stu_bounds hs
 have hi : i < n := by have := rows_len (Reads.of_own h); have := (List.getElem?_eq_some_iff.1 hr).1; omega
 have f1 := frozen_alloc3 hg (h.frozenAt (i * 5 + 1))
 have f2 := frozen_alloc3 hg (h.frozenAt (i * 5 + 2))
 have f3 := frozen_alloc3 hg (h.frozenAt (i * 5 + 3))
 have f4 := frozen_alloc3 hg (h.frozenAt (i * 5 + 4))
 have c0 := cell_alloc3 c0
 have c1 := cell_alloc3 c1
 have c2 := cell_alloc3 c2
 have c3 := cell_alloc3 c3
 have c4 := cell_alloc3 c4
 have H := Lib.hid h
 have HR := Lib.hid hr
 clear h hr
 have hin : (i : Int) < n := by omega
 have hg3 : g < w.heap.size + 1 + 1 + 1 := by omega
 have hn0 : g ≠ w.heap.size := by omega
 have hle : g ≤ w.heap.size + 1 + 1 := by omega
 have hn1 : g ≠ w.heap.size + 1 := by omega
 have hn2 : g ≠ w.heap.size + 1 + 1 := by omega
 obtain ⟨i0, ji, jz0, jz1, jz2⟩ := info_parts info_stu
 have hle0 := hpa
 by_cases hv : v = 0
 · rw [show teach day pa le l i r 6 v = some (l.eraseIdx i, pa, le + 1) from by simp [teach, hv]]
   subst hv
   have hnc : n ≤ c ∧ c ≤ maxLen := by
    rcases H.out.2 with ⟨h', _⟩ | ⟨g', cap', cur, h', _, _, hnc, hcm, _, _⟩
    · simp at h'
    · simp only [Value.slice.injEq, Option.some.injEq, Addr.mk.injEq, and_true, true_and] at h'
      obtain ⟨rfl, rfl⟩ := h'
      exact ⟨hnc, hcm⟩
   have hi1 : i + 1 ≤ n := hi
   have hi2 : (i : Int) + 1 ≤ n := by omega
   have hi3 : (i : Int) ≤ c := by omega
   have hi4 : i ≤ c := by omega
   have hnc1 := hnc.1
   have hnc2 : (n : Int) ≤ c := by omega
   have hcc : c = i + 1 ∨ ¬ c = i + 1 := by omega
   rcases hcc with rfl | hci
   · go_enter Try.func37, Try.ntmps37
     go_wp2
     (refine wp_region_later_tail 9 (by kernel_rfl) (by kernel_rfl) ?_; simp only [List.take_succ_cons, List.take_zero, List.drop_succ_cons, List.drop_zero]; (repeat (go_big_quiet_step (fail))); refine wpQuiet_nil ?_; intro w1 hw1; obtain ⟨⟨wl, hbL⟩, hw1'⟩ := hw1; simp only at hw1'; subst hw1'; obtain ⟨hcL, hfL⟩ := bcell hbL)
     have BX : Blk w1 w.heap.size 26 #[.int .i64 day, .slice (some ⟨g, 0, none⟩) n (i + 1), .int .i64 pa, .int .i64 le] := ((Blk.new w _ _).ext (ext_alloc (ext_alloc (ext_refl _) _) _)).ext hbL
     have BR : Blk w1 (w.heap.size + 1 + 1) 26 #[.int .i64 0, .slice none 0 0, .int .i64 0, .int .i64 0] := by
      have := (Blk.new ((w.alloc (.cells #[.int .i64 day, .slice (some ⟨g, 0, none⟩) n (i + 1), .int .i64 pa, .int .i64 le] 26)).alloc (.cells #[.int .i64 6, .int .i64 id, .int .i64 0] 28)) #[.int .i64 0, .slice none 0 0, .int .i64 0, .int .i64 0] 26).ext hbL
      simpa using this
     have BX := Lib.hid BX
     have BR := Lib.hid BR
     have z0 : w.heap.size + 1 + 1 < w1.heap.size := by (have := hbL.size; simp at this; omega)
     have z1 : w.heap.size + 1 < w1.heap.size := by omega
     have z2 : w.heap.size < w1.heap.size := by omega
     have zg : g < w1.heap.size := by omega
     have HB := Lib.hid (ext_trans (ext_alloc (ext_alloc (ext_alloc (ext_refl w) _) _) _) hbL)
     have HBL := Lib.hid hbL
     clear hbL
     have HO := Lib.hid (own_ext H.out HB.out)
     have HP := Lib.hid (own_prefix HO.out (show i ≤ n by omega))
     have HLN : Hid ((rowsV (l.drop (i + 1))).length = (n - (i + 1)) * 5) := Lib.hid (by rw [rowsV_len, List.length_drop, rows_len (Reads.of_own H.out)])
     obtain ⟨x0, x1, x2, x3⟩ := BX.out.q4
     obtain ⟨fx0, fx1, fx2, fx3⟩ := BX.out.z4
     go_wp2
     have hL : (l.eraseIdx i).length = i := by rw [List.length_eraseIdx, rows_len (Reads.of_own H.out), if_pos hi]; omega
     have hB1 := Lib.hid (Gr.of_ext (g := g) HB.out)
     have hE : rowsV (l.eraseIdx i) = rowsV (l.take i) := by
      rw [← rows_erase, List.drop_of_length_le (by rw [rows_len (Reads.of_own H.out)]; omega)]; simp [rowsV]
     refine bodyPost_ret (v := .tuple #[schV day (some ⟨g, 0, none⟩) i (i + 1) pa (le + 1), .bool true]) (by simp [results, Try.results37, go_sem, *]) rfl ?_
     unfold RetT
     dsimp only
     rw [hL]
     refine ⟨rfl, ?_, ?_⟩
     · iterate 6 refine own_set_ne ?_ (by show _ ≠ g; simp <;> omega) _
       rw [hE]
       exact HP.out
     · repeat refine only_setCell ?_ (by first | exact .inl rfl | (right; simp <;> omega)) _
       exact hB1.out
   · go_enter Try.func37, Try.ntmps37
     go_wp2
     (refine wp_region_later_tail 9 (by kernel_rfl) (by kernel_rfl) ?_; simp only [List.take_succ_cons, List.take_zero, List.drop_succ_cons, List.drop_zero]; (repeat (go_big_quiet_step (fail))); refine wpQuiet_nil ?_; intro w1 hw1; obtain ⟨⟨wl, hbL⟩, hw1'⟩ := hw1; simp only at hw1'; subst hw1'; obtain ⟨hcL, hfL⟩ := bcell hbL)
     have BX : Blk w1 w.heap.size 26 #[.int .i64 day, .slice (some ⟨g, 0, none⟩) n _, .int .i64 pa, .int .i64 le] := ((Blk.new w _ _).ext (ext_alloc (ext_alloc (ext_refl _) _) _)).ext hbL
     have BR : Blk w1 (w.heap.size + 1 + 1) 26 #[.int .i64 0, .slice none 0 0, .int .i64 0, .int .i64 0] := by
      have := (Blk.new ((w.alloc (.cells #[.int .i64 day, .slice (some ⟨g, 0, none⟩) n _, .int .i64 pa, .int .i64 le] 26)).alloc (.cells #[.int .i64 6, .int .i64 id, .int .i64 0] 28)) #[.int .i64 0, .slice none 0 0, .int .i64 0, .int .i64 0] 26).ext hbL
      simpa using this
     have BX := Lib.hid BX
     have BR := Lib.hid BR
     have z0 : w.heap.size + 1 + 1 < w1.heap.size := by (have := hbL.size; simp at this; omega)
     have z1 : w.heap.size + 1 < w1.heap.size := by omega
     have z2 : w.heap.size < w1.heap.size := by omega
     have zg : g < w1.heap.size := by omega
     have HB := Lib.hid (ext_trans (ext_alloc (ext_alloc (ext_alloc (ext_refl w) _) _) _) hbL)
     have HBL := Lib.hid hbL
     clear hbL
     have HO := Lib.hid (own_ext H.out HB.out)
     have HP := Lib.hid (own_prefix HO.out (show i ≤ n by omega))
     have HLN : Hid ((rowsV (l.drop (i + 1))).length = (n - (i + 1)) * 5) := Lib.hid (by rw [rowsV_len, List.length_drop, rows_len (Reads.of_own H.out)])
     go_wp2_with (at_builtin; refine wpList_append_fits_any _ rfl (.tmp 22) (.tmp 27) 24 rfl base 55 i0 5 Try.underlying24 ji jz1 g i _ (rowsV (l.take i)) rfl HP.out _ _ _ (rowsV (l.drop (i + 1))) rfl HLN.out (by intro e; first | (split at e <;> cases e) | cases e) (fun ad had => rows_drop_cells HO.out ad (by omega) (fun hlt => by have h2 := had; first | omega | (injection h2 with h2; rw [← h2]) | (split at h2 <;> first | omega | (injection h2 with h2; rw [← h2])))) (rows_one _) (by omega) ?_; intro w2 hown2 hg2; have BX2 := BX.out.grown hg2 (by intro e; injection e with e; omega); have BR2 := BR.out.grown hg2 (by intro e; injection e with e; omega); have hown2 := Lib.hid hown2; have hg2 := Lib.hid hg2; obtain ⟨x0, x1, x2, x3⟩ := BX2.q4; obtain ⟨fx0, fx1, fx2, fx3⟩ := BX2.z4; obtain ⟨r0, r1, r2, r3⟩ := BR2.q4; obtain ⟨fr0, fr1, fr2, fr3⟩ := BR2.z4; clear BX2 BR2)
     have hL : (l.eraseIdx i).length = i + (n - (i + 1)) := by rw [List.length_eraseIdx, rows_len (Reads.of_own H.out), if_pos hi]; omega
     have hB1 := Lib.hid (Gr.of_ext (g := g) HB.out)
     refine bodyPost_ret (v := .tuple #[schV day (some ⟨g, 0, none⟩) (i + (n - (i + 1))) c pa (le + 1), .bool true]) (by simp [results, Try.results37, go_sem, *]) rfl ?_
     unfold RetT
     dsimp only
     rw [hL]
     refine ⟨rfl, ?_, ?_⟩
     · iterate 6 refine own_set_ne ?_ (by show _ ≠ g; simp <;> omega) _
       have := hown2.out
       rw [rows_erase] at this
       exact this
     · repeat refine only_setCell ?_ (by first | exact .inl rfl | (right; simp <;> omega)) _
       exact Gr.trans hB1.out hg2.out
 · rw [show teach day pa le l i r 6 v = none from by simp [teach, hv]]
   have hv' : (v != 0) = true := by simpa using hv
   clear hv
   go_enter Try.func37, Try.ntmps37
   go_wp2
   go_wp2
   refine bodyPost_ret (v := .tuple #[schV 0 none 0 0 0 0, .bool false]) (by simp [results, Try.results37, go_sem, *]) rfl ⟨rfl, (by repeat (first | exact ext_refl _ | exact HB.out | assumption | refine ext_alloc ?_ _ | refine ext_set ?_ (by simp <;> omega) _ | refine ext_trans ?_ (by assumption)))⟩
end Go.Proofs.Ytkcbgiegoadkbaa
namespace Go.Proofs.Ytkcbgiegoadkbaa
open Go.RowKit
set_option linter.unusedVariables false
set_option linter.unusedSimpArgs false
theorem run_copy_zero {P : Program} (w : World) (dT sT ty elem : TypeId) (i : TypeInfo) (d a : Option Addr) (dLen dCap sLen sCap : Nat) (hu : P.underlying dT = some (.slice elem)) (hi : P.info? elem = some i) (hn : Nat.min sLen dLen = 0) :
 (Builtin.copy_ #[dT, sT] ty #[.slice d dLen dCap, .slice a sLen sCap]).run P w = .ok (goInt 0) w := by
 have hl : ∀ (x : Addr), (loadCells x 0).run P w = .ok #[] w := fun x => by simpa using run_loadCells_list (P := P) w x [] (by simp)
 cases d <;> cases a <;> simp [Builtin.copy_, run_underlying hu, Builtin.lenOf, Builtin.firstCells, sizeOf, typeInfo, hi, hn, storeCells, hl]
theorem run_copy_rows {P : Program} (w : World) (dT sT ty elem : TypeId) (i : TypeInfo) (size : Nat) (g o dLen dCap : Nat) (a : Addr) (sLen sCap : Nat) (cur : Array Value) (t : TypeId) (cs : List Value)
 (hu : P.underlying dT = some (.slice elem)) (hi : P.info? elem = some i) (hsz : i.size = size)
 (hg : w.heap[g]? = some (.cells cur t (0, 0))) (hn : cs.length = Nat.min sLen dLen * size)
 (hsrc : ∀ j v, cs[j]? = some v → w.cell? (a.add j) = some v) (hfit : o + cs.length ≤ cur.size) (h1 : ∀ v ∈ cs, v.oneCell' = true) :
 (Builtin.copy_ #[dT, sT] ty #[.slice (some ⟨g, o, none⟩) dLen dCap, .slice (some a) sLen sCap]).run P w =
  .ok (goInt (Nat.min sLen dLen)) (w.setRow g (cur.toList.take o ++ cs ++ cur.toList.drop (o + cs.length)).toArray) := by
 have hl := run_loadCells_list (P := P) w a cs hsrc
 have hst := run_storeCells_at P g o t cs 0 cur w hg (by simpa using hfit) h1
 simp [Builtin.copy_, run_underlying hu, Builtin.lenOf, Builtin.firstCells, sizeOf, typeInfo, hi, hsz, ← hn, hl, hst]
theorem own_setRow {w : World} {base e size n c g : Nat} {xs : List Value} {off : Nat} {cs : List Value} (cur : Array Value) (hcur : w.heap[g]? = some (.cells cur e (0, 0)))
 (h : w.ownsRow base e size (.slice (some ⟨g, 0, none⟩) n c) n xs) (hfit : off + cs.length ≤ n * size) :
 (w.setRow g (cur.toList.take off ++ cs ++ cur.toList.drop (off + cs.length)).toArray).ownsRow base e size (.slice (some ⟨g, 0, none⟩) n c) n (splice xs off cs) := by
 rcases h.2 with ⟨h', _⟩ | ⟨g', cap', cur', h', hb, hg, hnc, hcm, hcs, htake⟩
 · simp at h'
 · simp only [Value.slice.injEq, Option.some.injEq, Addr.mk.injEq, and_true, true_and] at h'
   obtain ⟨rfl, rfl⟩ := h'
   rw [hcur] at hg
   injection hg with hg
   injection hg with hg
   subst hg
   have hlen : n * size ≤ cur.size := by rw [hcs]; exact Nat.mul_le_mul_right _ hnc
   refine ⟨by rw [length_splice _ _ _ (by rw [h.1]; exact hfit)]; exact h.1, .inr ⟨g, c, _, rfl, hb, setRow_heap w g cur _ e _ hcur, hnc, hcm, ?_, ?_⟩⟩
   · simp only [List.size_toArray, List.length_append, List.length_take, List.length_drop, Array.length_toList]
     omega
   · rw [← htake]
     unfold splice
     simp only []
     apply List.ext_getElem?
     intro k
     simp only [List.getElem?_take, List.getElem?_append, List.length_append, List.length_take, List.getElem?_drop, Array.length_toList]
     by_cases hk : k < n * size
     · simp only [hk, if_true]
       by_cases h1 : k < off
       · have a1 : k < min off cur.size := by omega
         have a2 : k < min off cur.size + cs.length := by omega
         have a3 : k < min off (min (n * size) cur.size) := by omega
         simp [h1, a1, a2, a3, hk]
       · by_cases h2 : k < off + cs.length
         · have a1 : ¬ k < min off cur.size := by omega
           have a2 : k < min off cur.size + cs.length := by omega
           have a3 : ¬ k < min off (min (n * size) cur.size) := by omega
           have a4 : k - min off (min (n * size) cur.size) < cs.length := by omega
           have a5 : min off (min (n * size) cur.size) = min off cur.size := by omega
           simp [a1, a2, a3, a5]
           omega
         · have a1 : ¬ k < min off cur.size := by omega
           have a2 : ¬ k < min off cur.size + cs.length := by omega
           have a3 : ¬ k < min off (min (n * size) cur.size) := by omega
           have a4 : ¬ k - min off (min (n * size) cur.size) < cs.length := by omega
           have a6 : off + cs.length + (k - (min off cur.size + cs.length)) = k := by omega
           have a7 : off + cs.length + (k - min off (min (n * size) cur.size) - cs.length) = k := by omega
           simp [a2, a3, a4, a6, a7, hk]
     · simp only [hk, if_false]
       have a3 : ¬ k < min off (min (n * size) cur.size) := by omega
       have a4 : ¬ k - min off (min (n * size) cur.size) < cs.length := by omega
       have a7 : ¬ off + cs.length + (k - min off (min (n * size) cur.size) - cs.length) < n * size := by omega
       simp [a3, a4, a7]
theorem wpList_copy_rows {P : Program} {w : World} {ops : Array Oper} {rest : List Oper} {o : Oper} {a : Act} {Q : Exit → Act → World → Prop} (hgd : o.guard = none) (d s : Operand) (dT sT : TypeId)
 (ho : o.op = .call { callee := .builtin .copy, args := #[d, s], argTypes := #[dT, sT] }) (elem : TypeId) (i : TypeInfo) (size : Nat) (hu : P.underlying dT = some (.slice elem)) (hi : P.info? elem = some i) (hsz : i.size = size)
 (dp sp : Option Addr) (dLen dCap sLen sCap : Nat) (hd : a.eval d = .slice dp dLen dCap) (hs : a.eval s = .slice sp sLen sCap)
 (base g n c : Nat) (xs : List Value) (hown : w.ownsRow base elem size (.slice (some ⟨g, 0, none⟩) n c) n xs) (off : Nat) (cs : List Value) (hn : cs.length = Nat.min sLen dLen * size)
 (hpos : 0 < Nat.min sLen dLen → dp = some ⟨g, off, none⟩ ∧ ∃ ad, sp = some ad ∧ ∀ j v, cs[j]? = some v → w.cell? (ad.add j) = some v)
 (hfit : off + cs.length ≤ n * size) (h1 : ∀ v ∈ cs, v.oneCell' = true)
 (h : ∀ w', w'.ownsRow base elem size (.slice (some ⟨g, 0, none⟩) n c) n (splice xs off cs) → w.grownBy w' (some g) → wpList P ops Q rest (a.put o.dst (goInt (Nat.min sLen dLen))) w') :
 wpList P ops Q (o :: rest) a w := by
 by_cases h0 : Nat.min sLen dLen = 0
 · have hcs : cs = [] := List.eq_nil_of_length_eq_zero (by rw [hn, h0]; simp)
   subst hcs
   refine wpList_plain hgd fun K hK => ?_
   have hrun := run_copy_zero (P := P) w dT sT o.type elem i dp sp dLen dCap sLen sCap hu hi h0
   unfold Oper.wp
   simp [execOp, ho, resolve, invoke, builtin, hd, hs, hrun, Result.andThen]
   have := h w (by simpa [splice] using hown) (World.grownBy.refl _ _)
   rw [h0] at this
   exact hK _ _ this
 · obtain ⟨rfl, ad, rfl, hsrc⟩ := hpos (by omega)
   rcases hown.2 with ⟨h', _⟩ | ⟨g', cap', cur, h', hb, hg, hnc, hcm, hcsz, htake⟩
   · simp at h'
   · simp only [Value.slice.injEq, Option.some.injEq, Addr.mk.injEq, and_true, true_and] at h'
     obtain ⟨rfl, rfl⟩ := h'
     have hlen : n * size ≤ cur.size := by rw [hcsz]; exact Nat.mul_le_mul_right _ hnc
     refine wpList_plain hgd fun K hK => ?_
     have hrun := run_copy_rows (P := P) w dT sT o.type elem i size g off dLen dCap ad sLen sCap cur elem cs hu hi hsz hg hn hsrc (by omega) h1
     unfold Oper.wp
     simp only [execOp, ho, resolve, invoke, builtin, hd, hs, hrun, Result.andThen, List.map_toArray, List.map_cons, List.map_nil, Sem.run_bind, Sem.run_pure]
     exact hK _ _ (h _ (own_setRow cur hg hown hfit) ⟨rfl, rfl, rfl, by simp, fun k _ hk => setRow_other w g k _ (fun e => hk (by simp [e]))⟩)
end Go.Proofs.Ytkcbgiegoadkbaa
namespace Go.Proofs.Ytkcbgiegoadkbaa
open Go.RowKit
set_option linter.unusedVariables false
set_option linter.unusedSimpArgs false
def RetE (o : Option (List R5)) (day pa le : Int) (base : Nat) (v : Value) (w : World) (e : Ending) (w' : World) : Prop :=
 match o with
 | none => e = .returned (.tuple #[schV 0 none 0 0 0 0, .bool false]) ∧ Below w.heap.size w w'
 | some l' => ∃ A c, e = .returned (.tuple #[schV day A l'.length c pa le, .bool true]) ∧ w'.ownsRow base 55 5 (.slice A l'.length c) l'.length (rowsV l') ∧ w.grownBy w' v.ownBlock
def enr (day : Int) (l : List R5) (id v : Int) : Option (List R5) := if 0 ≤ findI l id ∨ inB v 0 5 = false then none else some (insS l id v day)
set_option maxHeartbeats 2000000 in
theorem enrolled_no (day pa le id v : Int) (A : Option Addr) (n c base : Nat) (l : List R5) (w : World) (h : Reads w w.heap.size 5 A n (rowsV l)) (hn : n ≤ 8) (hx : enr day l id v = none) :
 Calls Try.prog 36 #[schV day A n c pa le, .agg #[.int .i64 2, .int .i64 id, .int .i64 v]] w fun e w' => e = .returned (.tuple #[schV 0 none 0 0 0 0, .bool false]) ∧ Below w.heap.size w w' := by
 have HA := Lib.hid (fun w h => at_any day pa le id A n c l w (by omega) h)
 have H := Lib.hid h
 have HW := Lib.hid (inB_within v 0 5)
 obtain ⟨z, hz⟩ : ∃ z, findI l id = z := ⟨_, rfl⟩
 unfold enr at hx
 rw [hz] at HA hx
 clear h hz
 by_cases hz0 : 0 ≤ z
 · clear hx
   go_enter Try.func36, Try.ntmps36
   go_wp2_with fail
   refine (HA.out _ ((H.out.ext (ext_alloc (ext_alloc (ext_alloc (ext_refl _) _) _) _) (Nat.le_refl _)).more (by simp; omega))).mono ?_
   rintro e w1 ⟨rfl, hb1⟩
   obtain ⟨hc1, hf1⟩ := bcell hb1
   have z0 : w.heap.size + 1 + 1 < w1.heap.size := by (have := hb1.size; simp at this; omega)
   have hbw := Lib.hid (ext_trans (ext_alloc (ext_alloc (ext_alloc (ext_refl w) _) _) _) hb1)
   clear hb1
   go_wp2
   refine bodyPost_ret (v := .tuple #[schV 0 none 0 0 0 0, .bool false]) (by simp [results, Try.results36, go_sem, *]) rfl ⟨rfl, (by repeat (first | exact hbw.out | refine ext_set ?_ (by simp <;> omega) _))⟩
 · have hv : inB v 0 5 = false := by
    rcases hv : inB v 0 5 with _ | _
    · rfl
    · simp [hz0, hv] at hx
   rw [hv] at HW
   clear hx hv
   go_enter Try.func36, Try.ntmps36
   go_wp2_with fail
   refine (HA.out _ ((H.out.ext (ext_alloc (ext_alloc (ext_alloc (ext_refl _) _) _) _) (Nat.le_refl _)).more (by simp; omega))).mono ?_
   rintro e w1 ⟨rfl, hb1⟩
   obtain ⟨hc1, hf1⟩ := bcell hb1
   have z0 : w.heap.size + 1 + 1 < w1.heap.size := by (have := hb1.size; simp at this; omega)
   have z1 : w.heap.size + 1 < w1.heap.size := by omega
   have hbw := Lib.hid (ext_trans (ext_alloc (ext_alloc (ext_alloc (ext_refl w) _) _) _) hb1)
   clear hb1
   go_wp2_with (go_at_call 27; refine (HW.out _).mono ?_; rintro e w' ⟨rfl, rfl⟩)
   refine bodyPost_ret (v := .tuple #[schV 0 none 0 0 0 0, .bool false]) (by simp [results, Try.results36, go_sem, *]) rfl ⟨rfl, (by repeat (first | exact hbw.out | refine ext_set ?_ (by simp <;> omega) _))⟩
end Go.Proofs.Ytkcbgiegoadkbaa
namespace Go.Proofs.Ytkcbgiegoadkbaa
open Go.RowKit
set_option linter.unusedVariables false
set_option linter.unusedSimpArgs false
set_option maxHeartbeats 2000000 in
theorem taught_4 (day pa le id v : Int) (g n c base i : Nat) (l : List R5) (r : R5) (w : World) (h : w.ownsRow base 55 5 (.slice (some ⟨g, 0, none⟩) n c) n (rowsV l)) (hr : l[i]? = some r) (hs : stuB r = true) (hday : 0 ≤ day ∧ day ≤ 4000) (hpa : 0 ≤ pa ∧ pa ≤ 9999) (hlf : 0 ≤ le ∧ le ≤ 9999) (hg : g < w.heap.size) (hn : n ≤ 8) :
 Calls Try.prog 37 #[schV day (some ⟨g, 0, none⟩) n c pa le, .agg #[.int .i64 4, .int .i64 id, .int .i64 v], .int .i64 i] w (RetT (teach day pa le l i r 4 v) day base (some ⟨g, 0, none⟩) n c w) := by
 obtain ⟨c0, c1, c2, c3, c4⟩ := own_cells h hr
 obtain ⟨q1, q2, q3, q4, q5⟩ := stu_bounds hs
 have hi : i < n := by have := rows_len (Reads.of_own h); have := (List.getElem?_eq_some_iff.1 hr).1; omega
 have f1 := frozen_alloc3 hg (h.frozenAt (i * 5 + 1))
 have f2 := frozen_alloc3 hg (h.frozenAt (i * 5 + 2))
 have f3 := frozen_alloc3 hg (h.frozenAt (i * 5 + 3))
 have f4 := frozen_alloc3 hg (h.frozenAt (i * 5 + 4))
 have c0 := cell_alloc3 c0
 have c1 := cell_alloc3 c1
 have c2 := cell_alloc3 c2
 have c3 := cell_alloc3 c3
 have c4 := cell_alloc3 c4
 have H := Lib.hid h
 have HR := Lib.hid hr
 clear h hr
 have hin : (i : Int) < n := by omega
 have hg3 : g < w.heap.size + 1 + 1 + 1 := by omega
 have hn0 : g ≠ w.heap.size := by omega
 have hle : g ≤ w.heap.size + 1 + 1 := by omega
 have hn1 : g ≠ w.heap.size + 1 := by omega
 have hn2 : g ≠ w.heap.size + 1 + 1 := by omega
 by_cases hd : r.d < day
 · have hd' : decide (r.d < day) = true := by simpa using hd
   rw [show teach day pa le l i r 4 v = none from by simp [teach, hd]]
   go_enter Try.func37, Try.ntmps37
   go_wp2
   (refine wp_region_later (by kernel_rfl) (by kernel_rfl) ?_; (repeat (go_big_quiet_step (fail))); refine wpQuiet_nil ?_; intro w1 hw1; obtain ⟨⟨wl, hbL⟩, hw1'⟩ := hw1; simp only at hw1'; subst hw1'; obtain ⟨hcL, hfL⟩ := bcell hbL)
   have z0 : w.heap.size + 1 + 1 < w1.heap.size := by (have := hbL.size; simp at this; omega)
   have z1 : w.heap.size + 1 < w1.heap.size := by omega
   have z2 : w.heap.size < w1.heap.size := by omega
   have zg : g < w1.heap.size := by omega
   have HB := Lib.hid (ext_trans (ext_alloc (ext_alloc (ext_alloc (ext_refl w) _) _) _) hbL)
   have HBL := Lib.hid hbL
   clear hbL
   go_wp2
   refine bodyPost_ret (v := .tuple #[schV 0 none 0 0 0 0, .bool false]) (by simp [results, Try.results37, go_sem, *]) rfl ⟨rfl, (by repeat (first | exact ext_refl _ | exact HB.out | assumption | refine ext_alloc ?_ _ | refine ext_set ?_ (by simp <;> omega) _ | refine ext_trans ?_ (by assumption)))⟩
 have hd' : decide (r.d < day) = false := by simpa using hd
 by_cases hb : r.b = 10
 · have hb' : (r.b == 10) = true := by simpa using hb
   rw [show teach day pa le l i r 4 v = none from by simp [teach, hb]]
   clear hb
   go_enter Try.func37, Try.ntmps37
   go_wp2
   (refine wp_region_later (by kernel_rfl) (by kernel_rfl) ?_; (repeat (go_big_quiet_step (fail))); refine wpQuiet_nil ?_; intro w1 hw1; obtain ⟨⟨wl, hbL⟩, hw1'⟩ := hw1; simp only at hw1'; subst hw1'; obtain ⟨hcL, hfL⟩ := bcell hbL)
   have z0 : w.heap.size + 1 + 1 < w1.heap.size := by (have := hbL.size; simp at this; omega)
   have z1 : w.heap.size + 1 < w1.heap.size := by omega
   have z2 : w.heap.size < w1.heap.size := by omega
   have zg : g < w1.heap.size := by omega
   have HB := Lib.hid (ext_trans (ext_alloc (ext_alloc (ext_alloc (ext_refl w) _) _) _) hbL)
   have HBL := Lib.hid hbL
   clear hbL
   go_wp2
   refine bodyPost_ret (v := .tuple #[schV 0 none 0 0 0 0, .bool false]) (by simp [results, Try.results37, go_sem, *]) rfl ⟨rfl, (by repeat (first | exact ext_refl _ | exact HB.out | assumption | refine ext_alloc ?_ _ | refine ext_set ?_ (by simp <;> omega) _ | refine ext_trans ?_ (by assumption)))⟩
 have hb' : (r.b == 10) = false := by simpa using hb
 rcases hv : inB v 0 100 with _ | _
 · rw [show teach day pa le l i r 4 v = none from by simp [teach, hv]]
   have HC := Lib.hid (inB_within v 0 100)
   rw [hv] at HC
   clear hv hb
   go_enter Try.func37, Try.ntmps37
   go_wp2
   (refine wp_region_later (by kernel_rfl) (by kernel_rfl) ?_; (repeat (go_big_quiet_step ((go_at_call 27; exact Calls.later_same (HC.out _))))); refine wpQuiet_nil ?_; intro w1 hw1; obtain ⟨⟨wl, hbL⟩, hw1'⟩ := hw1; simp only at hw1'; subst hw1'; obtain ⟨hcL, hfL⟩ := bcell hbL)
   have z0 : w.heap.size + 1 + 1 < w1.heap.size := by (have := hbL.size; simp at this; omega)
   have z1 : w.heap.size + 1 < w1.heap.size := by omega
   have z2 : w.heap.size < w1.heap.size := by omega
   have zg : g < w1.heap.size := by omega
   have HB := Lib.hid (ext_trans (ext_alloc (ext_alloc (ext_alloc (ext_refl w) _) _) _) hbL)
   have HBL := Lib.hid hbL
   clear hbL
   go_wp2
   refine bodyPost_ret (v := .tuple #[schV 0 none 0 0 0 0, .bool false]) (by simp [results, Try.results37, go_sem, *]) rfl ⟨rfl, (by repeat (first | exact ext_refl _ | exact HB.out | assumption | refine ext_alloc ?_ _ | refine ext_set ?_ (by simp <;> omega) _ | refine ext_trans ?_ (by assumption)))⟩
 have HC := Lib.hid (inB_within v 0 100)
 rw [hv] at HC
 obtain ⟨hv0, hv1⟩ := inB_iff.1 hv
 by_cases h70 : 70 ≤ v
 · have h70' : decide (70 ≤ v) = true := by simpa using h70
   by_cases hw : 10 + 5 * r.b ≤ r.c
   · rw [show teach day pa le l i r 4 v = some (l.set i ⟨r.a, r.b + 1, 0, r.d, 0⟩, pa + 1, le) from by simp [teach, hd, hb, hv, h70, hw]]
     clear hb hv
     go_enter Try.func37, Try.ntmps37
     go_wp2
     (refine wp_region_later (by kernel_rfl) (by kernel_rfl) ?_; (repeat (go_big_quiet_step ((go_at_call 27; exact Calls.later_same (HC.out _))))); refine wpQuiet_nil ?_; intro w1 hw1; obtain ⟨⟨wl, hbL⟩, hw1'⟩ := hw1; simp only at hw1'; subst hw1'; obtain ⟨hcL, hfL⟩ := bcell hbL)
     have z0 : w.heap.size + 1 + 1 < w1.heap.size := by (have := hbL.size; simp at this; omega)
     have z1 : w.heap.size + 1 < w1.heap.size := by omega
     have z2 : w.heap.size < w1.heap.size := by omega
     have zg : g < w1.heap.size := by omega
     have HB := Lib.hid (ext_trans (ext_alloc (ext_alloc (ext_alloc (ext_refl w) _) _) _) hbL)
     have HBL := Lib.hid hbL
     clear hbL
     go_wp2
     (refine wp_region_later (by kernel_rfl) (by kernel_rfl) ?_; (repeat (go_big_quiet_step ((go_at_call 29; exact Calls.later_same (wanted_any _ _ (by omega) (by omega)))))); refine wpQuiet_nil ?_; intro w1 hw1; obtain ⟨⟨wl, hbL⟩, hw1'⟩ := hw1; simp only at hw1'; subst hw1'; obtain ⟨hcL, hfL⟩ := bcell hbL)
     have BX : Blk w1 w.heap.size 26 #[.int .i64 day, .slice (some ⟨g, 0, none⟩) n c, .int .i64 pa, .int .i64 le] := (((Blk.new w _ _).ext (ext_alloc (ext_alloc (ext_refl _) _) _)).ext HBL.out).ext hbL
     obtain ⟨x0, x1, x2, x3⟩ := BX.q4
     obtain ⟨fx0, fx1, fx2, fx3⟩ := BX.z4
     clear BX
     have hx2 : ∀ u1 u2 u3 : Value, (((w1.setCell ⟨g, i * 5 + 1, none⟩ u1).setCell ⟨g, i * 5 + 2, none⟩ u2).setCell ⟨g, i * 5 + 4, none⟩ u3).cell? ⟨w.heap.size, 2, none⟩ = some (.int .i64 pa) := fun u1 u2 u3 => cell_set_far hn0 (cell_set_far hn0 (cell_set_far hn0 x2))
     go_wp2
     have hL : (l.set i ⟨r.a, r.b + 1, 0, r.d, 0⟩).length = n := by rw [List.length_set]; exact rows_len (Reads.of_own H.out)
     refine bodyPost_ret (v := .tuple #[schV day (some ⟨g, 0, none⟩) n c (pa + 1) le, .bool true]) (by simp [results, Try.results37, go_sem, *]) rfl ?_
     unfold RetT
     dsimp only
     rw [hL]
     refine ⟨rfl, ?_, ?_⟩
     · rw [rows_setbce HR.out]
       iterate 5 refine own_set_ne ?_ (by show _ ≠ g; simp <;> omega) _
       exact ((((own_ext (own_ext H.out HB.out) hbL).stored _ _).1.stored _ _).1.stored _ _).1
     · repeat refine only_setCell ?_ (by first | exact .inl rfl | (right; simp <;> omega)) _
       exact Gr.of_ext (ext_trans HB.out hbL)
   · rw [show teach day pa le l i r 4 v = some (l.set i ⟨r.a, r.b, r.c, r.d, r.e + 1⟩, pa, le) from by simp [teach, hd, hb, hv, hw]]
     clear hb hv
     go_enter Try.func37, Try.ntmps37
     go_wp2
     (refine wp_region_later (by kernel_rfl) (by kernel_rfl) ?_; (repeat (go_big_quiet_step ((go_at_call 27; exact Calls.later_same (HC.out _))))); refine wpQuiet_nil ?_; intro w1 hw1; obtain ⟨⟨wl, hbL⟩, hw1'⟩ := hw1; simp only at hw1'; subst hw1'; obtain ⟨hcL, hfL⟩ := bcell hbL)
     have z0 : w.heap.size + 1 + 1 < w1.heap.size := by (have := hbL.size; simp at this; omega)
     have z1 : w.heap.size + 1 < w1.heap.size := by omega
     have z2 : w.heap.size < w1.heap.size := by omega
     have zg : g < w1.heap.size := by omega
     have HB := Lib.hid (ext_trans (ext_alloc (ext_alloc (ext_alloc (ext_refl w) _) _) _) hbL)
     have HBL := Lib.hid hbL
     clear hbL
     go_wp2
     (refine wp_region_later (by kernel_rfl) (by kernel_rfl) ?_; (repeat (go_big_quiet_step ((go_at_call 29; exact Calls.later_same (wanted_any _ _ (by omega) (by omega)))))); refine wpQuiet_nil ?_; intro w1 hw1; obtain ⟨⟨wl, hbL⟩, hw1'⟩ := hw1; simp only at hw1'; subst hw1'; obtain ⟨hcL, hfL⟩ := bcell hbL)
     go_wp2
     have hL : (l.set i ⟨r.a, r.b, r.c, r.d, r.e + 1⟩).length = n := by rw [List.length_set]; exact rows_len (Reads.of_own H.out)
     refine bodyPost_ret (v := .tuple #[schV day (some ⟨g, 0, none⟩) n c pa le, .bool true]) (by simp [results, Try.results37, go_sem, *]) rfl ?_
     unfold RetT
     dsimp only
     rw [hL]
     refine ⟨rfl, ?_, ?_⟩
     · rw [rows_sete HR.out]
       iterate 4 refine own_set_ne ?_ (by show _ ≠ g; simp <;> omega) _
       exact ((own_ext (own_ext H.out HB.out) hbL).stored _ _).1
     · repeat refine only_setCell ?_ (by first | exact .inl rfl | (right; simp <;> omega)) _
       exact Gr.of_ext (ext_trans HB.out hbL)
 · have h70' : decide (70 ≤ v) = false := by simpa using h70
   rw [show teach day pa le l i r 4 v = some (l.set i ⟨r.a, r.b, r.c, r.d, r.e + 1⟩, pa, le) from by simp [teach, hd, hb, hv, h70]]
   clear hb hv
   go_enter Try.func37, Try.ntmps37
   go_wp2
   (refine wp_region_later (by kernel_rfl) (by kernel_rfl) ?_; (repeat (go_big_quiet_step ((go_at_call 27; exact Calls.later_same (HC.out _))))); refine wpQuiet_nil ?_; intro w1 hw1; obtain ⟨⟨wl, hbL⟩, hw1'⟩ := hw1; simp only at hw1'; subst hw1'; obtain ⟨hcL, hfL⟩ := bcell hbL)
   have z0 : w.heap.size + 1 + 1 < w1.heap.size := by (have := hbL.size; simp at this; omega)
   have z1 : w.heap.size + 1 < w1.heap.size := by omega
   have z2 : w.heap.size < w1.heap.size := by omega
   have zg : g < w1.heap.size := by omega
   have HB := Lib.hid (ext_trans (ext_alloc (ext_alloc (ext_alloc (ext_refl w) _) _) _) hbL)
   have HBL := Lib.hid hbL
   clear hbL
   go_wp2
   (refine wp_region_later (by kernel_rfl) (by kernel_rfl) ?_; (repeat (go_big_quiet_step (fail))); refine wpQuiet_nil ?_; intro w1 hw1; obtain ⟨⟨wl, hbL⟩, hw1'⟩ := hw1; simp only at hw1'; subst hw1'; obtain ⟨hcL, hfL⟩ := bcell hbL)
   go_wp2
   have hL : (l.set i ⟨r.a, r.b, r.c, r.d, r.e + 1⟩).length = n := by rw [List.length_set]; exact rows_len (Reads.of_own H.out)
   refine bodyPost_ret (v := .tuple #[schV day (some ⟨g, 0, none⟩) n c pa le, .bool true]) (by simp [results, Try.results37, go_sem, *]) rfl ?_
   unfold RetT
   dsimp only
   rw [hL]
   refine ⟨rfl, ?_, ?_⟩
   · rw [rows_sete HR.out]
     iterate 4 refine own_set_ne ?_ (by show _ ≠ g; simp <;> omega) _
     exact ((own_ext (own_ext H.out HB.out) hbL).stored _ _).1
   · repeat refine only_setCell ?_ (by first | exact .inl rfl | (right; simp <;> omega)) _
     exact Gr.of_ext (ext_trans HB.out hbL)
end Go.Proofs.Ytkcbgiegoadkbaa
namespace Go.Proofs.Ytkcbgiegoadkbaa
open Go.RowKit
set_option linter.unusedVariables false
set_option linter.unusedSimpArgs false
set_option maxHeartbeats 2000000 in
theorem taught_5 (day pa le id v : Int) (g n c base i : Nat) (l : List R5) (r : R5) (w : World) (h : w.ownsRow base 55 5 (.slice (some ⟨g, 0, none⟩) n c) n (rowsV l)) (hr : l[i]? = some r) (hs : stuB r = true) (hday : 0 ≤ day ∧ day ≤ 4000) (hpa : 0 ≤ pa ∧ pa ≤ 9999) (hlf : 0 ≤ le ∧ le ≤ 9999) (hg : g < w.heap.size) (hn : n ≤ 8) :
 Calls Try.prog 37 #[schV day (some ⟨g, 0, none⟩) n c pa le, .agg #[.int .i64 5, .int .i64 id, .int .i64 v], .int .i64 i] w (RetT (teach day pa le l i r 5 v) day base (some ⟨g, 0, none⟩) n c w) := by
 obtain ⟨c0, c1, c2, c3, c4⟩ := own_cells h hr
 obtain ⟨q1, q2, q3, q4, q5⟩ := stu_bounds hs
 have hi : i < n := by have := rows_len (Reads.of_own h); have := (List.getElem?_eq_some_iff.1 hr).1; omega
 have f1 := frozen_alloc3 hg (h.frozenAt (i * 5 + 1))
 have f2 := frozen_alloc3 hg (h.frozenAt (i * 5 + 2))
 have f3 := frozen_alloc3 hg (h.frozenAt (i * 5 + 3))
 have f4 := frozen_alloc3 hg (h.frozenAt (i * 5 + 4))
 have c0 := cell_alloc3 c0
 have c1 := cell_alloc3 c1
 have c2 := cell_alloc3 c2
 have c3 := cell_alloc3 c3
 have c4 := cell_alloc3 c4
 have H := Lib.hid h
 have HR := Lib.hid hr
 clear h hr
 have hin : (i : Int) < n := by omega
 have hg3 : g < w.heap.size + 1 + 1 + 1 := by omega
 have hn0 : g ≠ w.heap.size := by omega
 have hle : g ≤ w.heap.size + 1 + 1 := by omega
 have hn1 : g ≠ w.heap.size + 1 := by omega
 have hn2 : g ≠ w.heap.size + 1 + 1 := by omega
 have q4a := q4.1
 rcases hv : inB v 1 365 with _ | _
 · rw [show teach day pa le l i r 5 v = none from by simp [teach, hv]]
   have HC := Lib.hid (inB_within v 1 365)
   rw [hv] at HC
   clear hv
   go_enter Try.func37, Try.ntmps37
   go_wp2_with (go_at_call 27; refine (HC.out _).mono ?_; rintro e w' ⟨rfl, rfl⟩)
   go_wp2
   refine bodyPost_ret (v := .tuple #[schV 0 none 0 0 0 0, .bool false]) (by simp [results, Try.results37, go_sem, *]) rfl ⟨rfl, (by repeat (first | exact ext_refl _ | exact HB.out | assumption | refine ext_alloc ?_ _ | refine ext_set ?_ (by simp <;> omega) _ | refine ext_trans ?_ (by assumption)))⟩
 have HC := Lib.hid (inB_within v 1 365)
 rw [hv] at HC
 obtain ⟨hv0, hv1⟩ := inB_iff.1 hv
 have hx : ∀ M : Int, M = (if day < r.d then r.d else day) → teach day pa le l i r 5 v = some (l.set i ⟨r.a, r.b, r.c, M + v, r.e⟩, pa, le) := fun M hM => by simp [teach, hv, hM]
 by_cases hmx : day ≤ r.d
 · rw [hx r.d (by split <;> omega)]
   clear hv hx
   go_enter Try.func37, Try.ntmps37
   go_wp2_with (go_at_call 27; refine (HC.out _).mono ?_; rintro e w' ⟨rfl, rfl⟩)
   (refine wp_region_later_tail 13 (by kernel_rfl) (by kernel_rfl) ?_; simp only [List.take_succ_cons, List.take_zero, List.drop_succ_cons, List.drop_zero]; (repeat (go_big_quiet_step (fail))); refine wpQuiet_nil ?_; intro w1 hw1; obtain ⟨⟨wl, hbL⟩, hw1'⟩ := hw1; simp only at hw1'; subst hw1'; obtain ⟨hcL, hfL⟩ := bcell hbL)
   go_wp2
   have hL : (l.set i ⟨r.a, r.b, r.c, r.d + v, r.e⟩).length = n := by rw [List.length_set]; exact rows_len (Reads.of_own H.out)
   refine bodyPost_ret (v := .tuple #[schV day (some ⟨g, 0, none⟩) n c pa le, .bool true]) (by simp [results, Try.results37, go_sem, *]) rfl ?_
   unfold RetT
   dsimp only
   rw [hL]
   refine ⟨rfl, ?_, ?_⟩
   · rw [rows_setd HR.out]
     iterate 4 refine own_set_ne ?_ (by show _ ≠ g; simp <;> omega) _
     exact ((own_ext H.out (ext_trans (ext_alloc (ext_alloc (ext_alloc (ext_refl w) _) _) _) hbL)).stored _ _).1
   · repeat refine only_setCell ?_ (by first | exact .inl rfl | (right; simp <;> omega)) _
     exact Gr.of_ext (ext_trans (ext_alloc (ext_alloc (ext_alloc (ext_refl w) _) _) _) hbL)
 · rw [hx day (by split <;> omega)]
   clear hv hx
   go_enter Try.func37, Try.ntmps37
   go_wp2_with (go_at_call 27; refine (HC.out _).mono ?_; rintro e w' ⟨rfl, rfl⟩)
   (refine wp_region_later_tail 13 (by kernel_rfl) (by kernel_rfl) ?_; simp only [List.take_succ_cons, List.take_zero, List.drop_succ_cons, List.drop_zero]; (repeat (go_big_quiet_step (fail))); refine wpQuiet_nil ?_; intro w1 hw1; obtain ⟨⟨wl, hbL⟩, hw1'⟩ := hw1; simp only at hw1'; subst hw1'; obtain ⟨hcL, hfL⟩ := bcell hbL)
   go_wp2
   have hL : (l.set i ⟨r.a, r.b, r.c, day + v, r.e⟩).length = n := by rw [List.length_set]; exact rows_len (Reads.of_own H.out)
   refine bodyPost_ret (v := .tuple #[schV day (some ⟨g, 0, none⟩) n c pa le, .bool true]) (by simp [results, Try.results37, go_sem, *]) rfl ?_
   unfold RetT
   dsimp only
   rw [hL]
   refine ⟨rfl, ?_, ?_⟩
   · rw [rows_setd HR.out]
     iterate 4 refine own_set_ne ?_ (by show _ ≠ g; simp <;> omega) _
     exact ((own_ext H.out (ext_trans (ext_alloc (ext_alloc (ext_alloc (ext_refl w) _) _) _) hbL)).stored _ _).1
   · repeat refine only_setCell ?_ (by first | exact .inl rfl | (right; simp <;> omega)) _
     exact Gr.of_ext (ext_trans (ext_alloc (ext_alloc (ext_alloc (ext_refl w) _) _) _) hbL)
end Go.Proofs.Ytkcbgiegoadkbaa
