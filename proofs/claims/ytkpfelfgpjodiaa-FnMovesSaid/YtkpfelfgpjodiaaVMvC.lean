/- UndoMoves: both. -/
import Derived.Test.YtkpfelfgpjodiaaVMvA
import Derived.Test.YtkpfelfgpjodiaaVM3
namespace Go.Proofs.Ytkpfelfgpjodiaa
open Go.RowKit
set_option linter.unusedVariables false
set_option linter.unusedSimpArgs false
theorem lit_ownV {B : Nat} (w0 : World) (E K : Nat) (cs : List Value) {H : Nat} (hH : H = w0.heap.size) (hB : B ≤ w0.heap.size) (hl : cs.length = K) : (w0.alloc (.cells cs.toArray E)).ownsRow B E K (.slice (some ⟨H, 0, none⟩) 1 1) 1 cs := by
 subst hH
 have h9 := World.ownsRow_lit (size := K) (e := E) w0 cs.toArray 1 hB (by unfold maxLen; omega) (by simp [hl])
 simpa using h9
theorem ints_oneV (l : List Int) : ∀ u ∈ intsV l, u.oneCell' = true := by
 intro u hu
 obtain ⟨z, _, rfl⟩ := List.mem_map.1 hu
 rfl
def negM (m : R3) : R3 := ⟨m.a, m.b, -m.c⟩
def undo (ms : List R3) : List R3 := (ms.map negM).reverse
def unL (ms : List R3) : List R3 := if mvsB ms = true then undo ms else []
theorem undo_drop {ms : List R3} {j : Nat} {m : R3} (h : ms[j]? = some m) : undo (ms.drop j) = undo (ms.drop (j + 1)) ++ [negM m] := by
 obtain ⟨hj, e⟩ := List.getElem?_eq_some_iff.1 h
 rw [List.drop_eq_getElem_cons hj, e]
 unfold undo
 rw [List.map_cons, List.reverse_cons]
set_option maxRecDepth 100000 in
set_option maxHeartbeats 8000000 in
theorem implUndoMoves_any (A0 : Option Addr) (n c0 : Nat) (ms : List R3) (w : World) (hn : n ≤ 1048576) (h : Reads w w.heap.size 3 A0 n (rowsV3 ms)) :
 Calls Try.prog 12 #[.slice A0 n c0] w (RetSliceB w 41 3 (unL ms).length (rowsV3 (unL ms)) (mvsB ms)) := by
 obtain ⟨i0, hi, hz0, hz1, hz2⟩ := info_parts info_mv
 have hl := rows_len3 h
 have H := Lib.hid h
 have HL := Lib.hid hl
 have HG := Lib.hid (fun (w : World) h => areMoves_any A0 n c0 ms w hn h)
 unfold RetV at HG
 unfold RetSliceB
 cases hm : mvsB ms
 · rw [show unL ms = [] by unfold unL; rw [if_neg (by rw [hm]; simp)]]
   rw [hm] at HG
   clear h hl hm
   go_enter Try.func12, Try.ntmps12
   go_wp2_with fail
   refine (HG.out _ H.out).mono ?_
   rintro e w1 ⟨rfl, hb1⟩
   go_wp2
   go_ret2
   exact ⟨_, _, rfl, World.ownsRow_nil _ _ _ _, hb1⟩
 · rw [show unL ms = undo ms by unfold unL; rw [if_pos hm]]
   rw [hm] at HG
   have HC := Lib.hid (mvs_small hm)
   have hn60 : n ≤ 60 := by
    unfold mvsB at hm
    simp only [Bool.and_eq_true, decide_eq_true_eq] at hm
    omega
   clear h hl hm
   go_enter Try.func12, Try.ntmps12
   go_wp2_with fail
   refine (HG.out _ H.out).mono ?_
   rintro e w1 ⟨rfl, hb1⟩
   have w0' : IntKind.i64.wrap ((n : Int) - 1) = (n : Int) - 1 := by rw [IntKind.wrap_i64]; omega
   go_wp2_with fail
   clear w0'
   go_loopw [4, 5] (fun out iv wr => ∃ (k : Nat) (A : Option Addr) (c : Nat), k ≤ n ∧ out = .slice A (n - k) c ∧ iv = .int .i64 ((k : Int) - 1) ∧ Hid (wr.ownsRow w.heap.size 41 3 (.slice A (n - k) c) (n - k) (rowsV3 (undo (ms.drop k)))) ∧ Hid (Below w.heap.size w wr)) (fun _ iv _ => (intOf iv + 1).toNat)
   case atStart => exact ⟨n, none, 0, Nat.le_refl _, by rw [Nat.sub_self], rfl, Lib.hid (by rw [Nat.sub_self, List.drop_of_length_le (by rw [HL.out]; exact Nat.le_refl _)]; exact World.ownsRow_nil _ _ _ _), Lib.hid hb1⟩
   case round =>
    obtain ⟨k, A, c, hk, rfl, rfl, HO, HB⟩ := hrel
    obtain ⟨V, hV⟩ : ∃ V : World, V = wr := ⟨_, rfl⟩
    subst hV
    clear hb1
    have hbV0 := HB.out.size
    rcases k with _ | j
    · have e1 : ¬ (0 : Int) ≤ ((0 : Nat) : Int) - 1 := by omega
      go_wp2
      go_ret2
      have hun : (undo ms).length = n := by unfold undo; rw [List.length_reverse, List.length_map, HL.out]
      exact ⟨_, _, by rw [hun]; rfl, by rw [hun]; exact HO.out, HB.out⟩
    · rw [show (((j + 1 : Nat) : Int) - 1) = (j : Int) by omega]
      obtain ⟨m, hx⟩ := list_split (l := ms) (k := j) (by rw [HL.out]; omega)
      obtain ⟨b, o, hA0, hbb, q0, q1, q2⟩ := rows_at3 (rdx H.out HB.out) hx
      have hms := HC.out m (List.mem_of_getElem? hx)
      have hneg : IntKind.i64.wrap (-m.c) = -m.c := by rw [IntKind.wrap_i64]; omega
      have HU := Lib.hid (undo_drop hx)
      obtain ⟨p, hp⟩ : ∃ p, n - (j + 1) = p := ⟨_, rfl⟩
      rw [hp] at HO ⊢
      have hpn : n - j = p + 1 := by omega
      have HPN := Lib.hid hpn
      have j0 : (0 : Int) ≤ (j : Int) := by omega
      have j1 : (j : Int) < (n : Int) := by omega
      have j60 : j ≤ 60 := by omega
      have p60 : p ≤ 60 := by omega
      subst hA0
      clear hx hp hpn
      go_upto_region 9 with fail
      obtain ⟨W, hW⟩ : ∃ y : World, y = V.alloc (.cells #[.int .i64 m.a, .int .i64 m.b, .int .i64 (-m.c)] 41) := ⟨_, rfl⟩
      have BM := Lib.hid (show Blk W V.heap.size 41 #[.int .i64 m.a, .int .i64 m.b, .int .i64 (-m.c)] by rw [hW]; exact Blk.born V #[.int .i64 m.a, .int .i64 m.b, .int .i64 (-m.c)] 41 (H := V.heap.size) rfl)
      have HOW0 := Lib.hid (show W.ownsRow w.heap.size 41 3 (.slice A p c) p (rowsV3 (undo (ms.drop (j + 1)))) by rw [hW]; exact HO.out.alloc _)
      have HBW := Lib.hid (show Below w.heap.size w W by rw [hW]; exact ext_alloc HB.out _)
      rw [← hW]
      clear hW q0 q1 q2
      obtain ⟨v0, v1, v2⟩ := BM.out.q3
      have lv := BM.out.lt
      have hbW := HBW.out.size
      have m1 : p + 1 ≤ maxLen := by unfold maxLen; omega
      have m2 : (p + 1) * 24 ≤ 140737488355328 := by omega
      go_wp2_with (at_builtin; refine wpList_appO rfl (.tmp 25) (.tmp 27) 27 rfl w.heap.size 41 i0 _ 3 24 Try.underlying27 hi hz0 hz1 hz2 rfl (by decide) (.slice A p c) p (rowsV3 (undo (ms.drop (j + 1)))) rfl (HOW0.out.alloc (.cells #[.int .i64 m.a, .int .i64 m.b, .int .i64 (-m.c)] 41)) (some ⟨W.heap.size, 0, none⟩) 1 1 [.int .i64 m.a, .int .i64 m.b, .int .i64 (-m.c)] rfl w.heap.size (lit_ownV (B := w.heap.size) W 41 3 [.int .i64 m.a, .int .i64 m.b, .int .i64 (-m.c)] rfl hbW (by rfl)) (ints_oneV [m.a, m.b, (-m.c)]) m1 m2 (Nat.le_trans hbW (by simp)) ?_; intro A4 c4 w6 hown hgrow; have HGR := Lib.hid hgrow; have HOW := Lib.hid hown; clear hown hgrow)
      have HB9 := Lib.hid (below_grown' (HOW0.out.alloc (.cells #[.int .i64 m.a, .int .i64 m.b, .int .i64 (-m.c)] 41)) (Nat.le_refl _) (ext_alloc HBW.out (.cells #[.int .i64 m.a, .int .i64 m.b, .int .i64 (-m.c)] 41)) HGR.out)
      have HOW2 := Lib.hid (show w6.ownsRow w.heap.size 41 3 (.slice A4 (n - j) c4) (n - j) (rowsV3 (undo (ms.drop j))) by rw [HPN.out, HU.out]; have h9 := HOW.out; simpa [rowsV3, R3.cells, negM] using h9)
      rw [← HPN.out]
      have w1' : IntKind.i64.wrap ((j : Int) - 1) = (j : Int) - 1 := by rw [IntKind.wrap_i64]; omega
      go_wp2
      go_roundw
      case rel => exact ⟨j, A4, c4, by omega, rfl, rfl, HOW2, HB9⟩
      case measure => simp [intOf] <;> omega
set_option maxRecDepth 100000 in
set_option maxHeartbeats 8000000 in
theorem specUndoMoves_any (A0 : Option Addr) (n c0 : Nat) (ms : List R3) (w : World) (hn : n ≤ 1048576) (h : Reads w w.heap.size 3 A0 n (rowsV3 ms)) :
 Calls Try.prog 23 #[.slice A0 n c0] w (RetSliceB w 41 3 (unL ms).length (rowsV3 (unL ms)) (mvsB ms)) := by
 obtain ⟨i0, hi, hz0, hz1, hz2⟩ := info_parts info_mv
 have hl := rows_len3 h
 have H := Lib.hid h
 have HL := Lib.hid hl
 have HG := Lib.hid (fun (w : World) h => l4Good_any A0 n c0 ms w hn h)
 unfold RetV at HG
 unfold RetSliceB
 have HN0 := Lib.hid (own_lit_at w 41 3 (H := w.heap.size) (B := w.heap.size) rfl (Nat.le_refl _))
 have HX0 := Lib.hid (ext_alloc (ext_refl w) (.cells #[] 41))
 cases hm : mvsB ms
 · rw [show unL ms = [] by unfold unL; rw [if_neg (by rw [hm]; simp)]]
   rw [hm] at HG
   clear h hl hm
   go_enter Try.func23, Try.ntmps23
   go_wp2_with fail
   refine (HG.out _ (rdx H.out HX0.out)).mono ?_
   rintro e w1 ⟨rfl, hb1⟩
   go_wp2
   go_ret2
   exact ⟨_, _, rfl, own_ext HN0.out hb1, ext_trans HX0.out hb1⟩
 · rw [show unL ms = undo ms by unfold unL; rw [if_pos hm]]
   rw [hm] at HG
   have HC := Lib.hid (mvs_small hm)
   have hn60 : n ≤ 60 := by
    unfold mvsB at hm
    simp only [Bool.and_eq_true, decide_eq_true_eq] at hm
    omega
   clear h hl hm
   go_enter Try.func23, Try.ntmps23
   go_wp2_with fail
   refine (HG.out _ (rdx H.out HX0.out)).mono ?_
   rintro e w1 ⟨rfl, hb1⟩
   have w0' : IntKind.i64.wrap ((n : Int) - 1) = (n : Int) - 1 := by rw [IntKind.wrap_i64]; omega
   go_wp2_with fail
   clear w0'
   go_loopw [4, 5] (fun out iv wr => ∃ (k : Nat) (A : Option Addr) (c : Nat), k ≤ n ∧ out = .slice A (n - k) c ∧ iv = .int .i64 ((k : Int) - 1) ∧ Hid (wr.ownsRow w.heap.size 41 3 (.slice A (n - k) c) (n - k) (rowsV3 (undo (ms.drop k)))) ∧ Hid (Below w.heap.size w wr)) (fun _ iv _ => (intOf iv + 1).toNat)
   case atStart => exact ⟨n, _, _, Nat.le_refl _, by rw [Nat.sub_self], rfl, Lib.hid (by rw [Nat.sub_self, List.drop_of_length_le (by rw [HL.out]; exact Nat.le_refl _)]; exact own_ext HN0.out hb1), Lib.hid (ext_trans HX0.out hb1)⟩
   case round =>
    obtain ⟨k, A, c, hk, rfl, rfl, HO, HB⟩ := hrel
    obtain ⟨V, hV⟩ : ∃ V : World, V = wr := ⟨_, rfl⟩
    subst hV
    clear hb1
    have hbV0 := HB.out.size
    rcases k with _ | j
    · have e1 : ¬ (0 : Int) ≤ ((0 : Nat) : Int) - 1 := by omega
      go_wp2
      go_ret2
      have hun : (undo ms).length = n := by unfold undo; rw [List.length_reverse, List.length_map, HL.out]
      exact ⟨_, _, by rw [hun]; rfl, by rw [hun]; exact HO.out, HB.out⟩
    · rw [show (((j + 1 : Nat) : Int) - 1) = (j : Int) by omega]
      obtain ⟨m, hx⟩ := list_split (l := ms) (k := j) (by rw [HL.out]; omega)
      obtain ⟨b, o, hA0, hbb, q0, q1, q2⟩ := rows_at3 (rdx H.out HB.out) hx
      have hms := HC.out m (List.mem_of_getElem? hx)
      have hneg : IntKind.i64.wrap (-m.c) = -m.c := by rw [IntKind.wrap_i64]; omega
      have HU := Lib.hid (undo_drop hx)
      obtain ⟨p, hp⟩ : ∃ p, n - (j + 1) = p := ⟨_, rfl⟩
      rw [hp] at HO ⊢
      have hpn : n - j = p + 1 := by omega
      have HPN := Lib.hid hpn
      have j0 : (0 : Int) ≤ (j : Int) := by omega
      have j1 : (j : Int) < (n : Int) := by omega
      have j60 : j ≤ 60 := by omega
      have p60 : p ≤ 60 := by omega
      subst hA0
      clear hx hp hpn
      go_upto_region 8 with fail
      obtain ⟨W, hW⟩ : ∃ y : World, y = V.alloc (.cells #[.int .i64 m.a, .int .i64 m.b, .int .i64 m.c] 41) := ⟨_, rfl⟩
      have BM := Lib.hid (show Blk W V.heap.size 41 #[.int .i64 m.a, .int .i64 m.b, .int .i64 m.c] by rw [hW]; exact Blk.born V #[.int .i64 m.a, .int .i64 m.b, .int .i64 m.c] 41 (H := V.heap.size) rfl)
      have HOW0 := Lib.hid (show W.ownsRow w.heap.size 41 3 (.slice A p c) p (rowsV3 (undo (ms.drop (j + 1)))) by rw [hW]; exact HO.out.alloc _)
      have HBW := Lib.hid (show Below w.heap.size w W by rw [hW]; exact ext_alloc HB.out _)
      rw [← hW]
      clear hW q0 q1 q2
      obtain ⟨v0, v1, v2⟩ := BM.out.q3
      have lv := BM.out.lt
      have hbW := HBW.out.size
      have m1 : p + 1 ≤ maxLen := by unfold maxLen; omega
      have m2 : (p + 1) * 24 ≤ 140737488355328 := by omega
      go_wp2_with (at_builtin; refine wpList_appO rfl (.tmp 23) (.tmp 32) 27 rfl w.heap.size 41 i0 _ 3 24 Try.underlying27 hi hz0 hz1 hz2 rfl (by decide) (.slice A p c) p (rowsV3 (undo (ms.drop (j + 1)))) rfl (HOW0.out.alloc (.cells #[.int .i64 m.a, .int .i64 m.b, .int .i64 (-m.c)] 41)) (some ⟨W.heap.size, 0, none⟩) 1 1 [.int .i64 m.a, .int .i64 m.b, .int .i64 (-m.c)] rfl w.heap.size (lit_ownV (B := w.heap.size) W 41 3 [.int .i64 m.a, .int .i64 m.b, .int .i64 (-m.c)] rfl hbW (by rfl)) (ints_oneV [m.a, m.b, (-m.c)]) m1 m2 (Nat.le_trans hbW (by simp)) ?_; intro A4 c4 w6 hown hgrow; have HGR := Lib.hid hgrow; have HOW := Lib.hid hown; clear hown hgrow)
      have HB9 := Lib.hid (below_grown' (HOW0.out.alloc (.cells #[.int .i64 m.a, .int .i64 m.b, .int .i64 (-m.c)] 41)) (Nat.le_refl _) (ext_alloc HBW.out (.cells #[.int .i64 m.a, .int .i64 m.b, .int .i64 (-m.c)] 41)) HGR.out)
      have HOW2 := Lib.hid (show w6.ownsRow w.heap.size 41 3 (.slice A4 (n - j) c4) (n - j) (rowsV3 (undo (ms.drop j))) by rw [HPN.out, HU.out]; have h9 := HOW.out; simpa [rowsV3, R3.cells, negM] using h9)
      rw [← HPN.out]
      have w1' : IntKind.i64.wrap ((j : Int) - 1) = (j : Int) - 1 := by rw [IntKind.wrap_i64]; omega
      go_wp2
      go_roundw
      case rel => exact ⟨j, A4, c4, by omega, rfl, rfl, HOW2, HB9⟩
      case measure => simp [intOf] <;> omega
end Go.Proofs.Ytkpfelfgpjodiaa
