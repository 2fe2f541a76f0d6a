/- SameResult: the reference's. -/
import Derived.Test.YtphhelmcaehclaaVWsB
import Derived.Test.YtphhelmcaehclaaVM9
namespace Go.Proofs.Ytphhelmcaehclaa
open Go.RowKit
set_option linter.unusedVariables false
set_option linter.unusedSimpArgs false
theorem sr_pl (u lo : Int) (l : List R2) (p q : List R3) : srOk u lo l p q = (rcdB p && rcdB q && plB u lo l p && plB u lo l q) := by
 have e : ∀ ms, rcdB ms = true → mvsB ms = true := fun ms h => by unfold rcdB at h; simp only [Bool.and_eq_true] at h; exact h.2
 unfold srOk plB
 cases h1 : rcdB p
 · simp
 cases h2 : rcdB q
 · simp
 rw [e p h1, e q h2]
 cases frB u lo l <;> simp
theorem pl_some {u lo : Int} {l : List R2} {ms : List R3} (h : plB u lo l ms = true) : frB u lo l = true ∧ ∃ x, playS u lo l ms = some x ∧ plF u lo l ms = (u, lo, x) := by
 have h0 := h
 unfold plB at h
 simp only [Bool.and_eq_true] at h
 obtain ⟨x, hx⟩ := Option.isSome_iff_exists.1 h.2
 exact ⟨h.1.1, x, hx, (pl_of h.1.1 h.1.2 hx).1⟩
theorem sr_btw {u lo : Int} {x y : List R2} (hx : frB u lo x = true) (hy : frB u lo y = true) (h : x.length = y.length) : (true && (cmpP x y == 0)) = (((btw x y x.length).length : Int) == 0) := by
 rw [Bool.true_and]
 by_cases hz : cmpP x y = 0
 · obtain rfl := cmpP_zero x y h hz
   rw [btw_self, hz]
   rfl
 · rw [beq_eq_false_iff_ne.2 hz, eq_comm]
   refine beq_eq_false_iff_ne.2 fun hb => hz ?_
   have hp := play_between hx hy h.symm
   rw [List.length_eq_zero_iff.1 (by omega : (btw x y x.length).length = 0)] at hp
   injection hp with hp
   rw [hp]
   exact cmpP_self y
set_option maxRecDepth 100000 in
theorem l19Both_any (B : Option Addr) (k cb : Nat) (p : List R3) (D : Option Addr) (m cd : Nat) (q : List R3) (w : World) (hk : k ≤ 1048576) (hm : m ≤ 1048576) (hp : Reads w w.heap.size 3 B k (rowsV3 p)) (hq : Reads w w.heap.size 3 D m (rowsV3 q)) :
 Calls Try.prog 47 #[.slice B k cb, .slice D m cd] w (RetV (.bool (rcdB p && rcdB q)) w) := by
 have HP := Lib.hid hp
 have HQ := Lib.hid hq
 have HG := Lib.hid (fun (w : World) h => l19Good_any B k cb p w hk h)
 have HG2 := Lib.hid (fun (w : World) h => l19Good_any D m cd q w hm h)
 clear hp hq
 obtain ⟨x, hx⟩ : ∃ o9, rcdB p = o9 := ⟨_, rfl⟩
 obtain ⟨y, hy⟩ : ∃ o9, rcdB q = o9 := ⟨_, rfl⟩
 rw [hx] at HG ⊢
 rw [hy] at HG2 ⊢
 clear hx hy
 go_enter Try.func47, Try.ntmps47
 cases x
 · go_wp2_with fail
   refine (HG.out _ (rdx HP.out (ext_refl w))).mono ?_
   rintro e w1 ⟨rfl, hb⟩
   have s1 : w.heap.size ≤ w1.heap.size := (by have := hb.size; (try simp at this); omega)
   have b1 := Lib.hid (ext_trans (ext_refl w) hb)
   have t1 : w.heap.size ≤ w1.heap.size := b1.out.size
   clear hb
   go_wp2
   go_ret
   exact ⟨rfl, b1.out⟩
 · go_wp2_with fail
   refine (HG.out _ (rdx HP.out (ext_refl w))).mono ?_
   rintro e w1 ⟨rfl, hb⟩
   have s1 : w.heap.size ≤ w1.heap.size := (by have := hb.size; (try simp at this); omega)
   have b1 := Lib.hid (ext_trans (ext_refl w) hb)
   have t1 : w.heap.size ≤ w1.heap.size := b1.out.size
   clear hb
   go_wp2_with fail
   refine (HG2.out _ (rdx HQ.out b1.out)).mono ?_
   rintro e w2 ⟨rfl, hb⟩
   have s2 : w1.heap.size ≤ w2.heap.size := (by have := hb.size; (try simp at this); omega)
   have b2 := Lib.hid (ext_trans b1.out hb)
   have t2 : w.heap.size ≤ w2.heap.size := b2.out.size
   clear hb
   go_wp2
   go_ret
   exact ⟨rfl, b2.out⟩
set_option maxRecDepth 100000 in
set_option maxHeartbeats 4000000 in
theorem specSameResult_any (u lo : Int) (A : Option Addr) (n c : Nat) (l : List R2) (B : Option Addr) (k cb : Nat) (p : List R3) (D : Option Addr) (m cd : Nat) (q : List R3) (w : World) (hn : n ≤ 1048576) (hk : k ≤ 1048576) (hm : m ≤ 1048576) (h : Reads w w.heap.size 2 A n (rowsV2 l)) (hp : Reads w w.heap.size 3 B k (rowsV3 p)) (hq : Reads w w.heap.size 3 D m (rowsV3 q)) :
 Calls Try.prog 11 #[frV u lo A n c, .slice B k cb, .slice D m cd] w (RetV (.tuple #[.bool (srV u lo l p q), .bool (srOk u lo l p q)]) w) := by
 have hl := rows_len2 h
 have H := Lib.hid h
 have HP := Lib.hid hp
 have HQ := Lib.hid hq
 clear h hp hq

 rw [sr_pl u lo l p q]
 have HOP := Lib.hid (fun (w : World) h hm => show Calls Try.prog 41 #[frV u lo A n c, .slice B k cb] w (RetFrB w (plF u lo l p) (plB u lo l p)) from specPlayMoves_any u lo A n c l B k cb p w hn hk h hm)
 have HOQ := Lib.hid (fun (w : World) h hn' => show Calls Try.prog 41 #[frV u lo A n c, .slice D m cd] w (RetFrB w (plF u lo l q) (plB u lo l q)) from specPlayMoves_any u lo A n c l D m cd q w hn hm h hn')
 have HB := Lib.hid (fun (w : World) h h' => l19Both_any B k cb p D m cd q w hk hm h h')
 cases hob : rcdB p && rcdB q
 · rw [show srV u lo l p q = false by unfold srV; rw [sr_pl, hob]; rfl]
   rw [Bool.false_and, Bool.false_and]
   rw [hob] at HB
   obtain ⟨X1, hX1⟩ : ∃ o9, plF u lo l p = o9 := ⟨_, rfl⟩
   rw [hX1] at HOP
   obtain ⟨U1, LO1, L1⟩ := X1
   obtain ⟨X2, hX2⟩ : ∃ o9, plF u lo l q = o9 := ⟨_, rfl⟩
   rw [hX2] at HOQ
   obtain ⟨U2, LO2, L2⟩ := X2
   unfold RetFrB at HOP HOQ
   dsimp only at HOP HOQ
   obtain ⟨o1, ho1⟩ : ∃ o9, plB u lo l p = o9 := ⟨_, rfl⟩
   rw [ho1] at HOP
   obtain ⟨o2, ho2⟩ : ∃ o9, plB u lo l q = o9 := ⟨_, rfl⟩
   rw [ho2] at HOQ
   clear hob hX1 hX2 ho1 ho2
   go_enter Try.func11, Try.ntmps11
   go_wp2_with fail
   refine (HOP.out _ (rdx H.out (ext_alloc (ext_refl w) _)) (rdx HP.out (ext_alloc (ext_refl w) _))).mono ?_
   rintro e w1 ⟨Ax, cx, rfl, ho_x, hb⟩
   have s1 : w.heap.size + 1 ≤ w1.heap.size := (by have := hb.size; (try simp at this); omega)
   have z1_0 : w.heap.size < w1.heap.size := (by omega)
   have q1_0 : w1.cell? ⟨w.heap.size, 0, none⟩ = some (.int .i64 u) := ext_cell hb (by simp [go_sem])
   have q1_1 : w1.cell? ⟨w.heap.size, 1, none⟩ = some (.int .i64 lo) := ext_cell hb (by simp [go_sem])
   have q1_2 : w1.cell? ⟨w.heap.size, 2, none⟩ = some (.slice A n c) := ext_cell hb (by simp [go_sem])
   have b1 := Lib.hid (ext_trans (ext_alloc (ext_refl w) _) hb)
   have t1 : w.heap.size ≤ w1.heap.size := b1.out.size
   have oc_x := Lib.hid (own_base (base' := w.heap.size + 1) ho_x (by simp))
   clear ho_x
   clear hb
   go_wp2_with fail
   refine (HOQ.out _ (rdx H.out (ext_alloc b1.out _)) (rdx HQ.out (ext_alloc b1.out _))).mono ?_
   rintro e w2 ⟨Ay, cy, rfl, ho_y, hb⟩
   have s2 : w1.heap.size + 1 ≤ w2.heap.size := (by have := hb.size; (try simp at this); omega)
   have z2_0 : w.heap.size < w2.heap.size := (by omega)
   have z2_1 : w1.heap.size < w2.heap.size := (by omega)
   have q2_0 : w2.cell? ⟨w.heap.size, 0, none⟩ = some (.int .i64 u) := ext_cell hb (cell_old q1_0 _)
   have q2_1 : w2.cell? ⟨w.heap.size, 1, none⟩ = some (.int .i64 lo) := ext_cell hb (cell_old q1_1 _)
   have q2_2 : w2.cell? ⟨w.heap.size, 2, none⟩ = some (.slice A n c) := ext_cell hb (cell_old q1_2 _)
   have q2_3 : w2.cell? ⟨w1.heap.size, 0, none⟩ = some (.int .i64 U1) := ext_cell hb (by simp [go_sem])
   have q2_4 : w2.cell? ⟨w1.heap.size, 1, none⟩ = some (.int .i64 LO1) := ext_cell hb (by simp [go_sem])
   have q2_5 : w2.cell? ⟨w1.heap.size, 2, none⟩ = some (.slice Ax L1.length cx) := ext_cell hb (by simp [go_sem])
   have b2 := Lib.hid (ext_trans (ext_alloc b1.out _) hb)
   have t2 : w.heap.size ≤ w2.heap.size := b2.out.size
   have o2_x := Lib.hid (own_ext (oc_x.out.alloc _) hb)
   clear q1_0 q1_1 q1_2
   have oc_y := Lib.hid (own_base (base' := w1.heap.size + 1) ho_y (by simp))
   clear ho_y
   clear hb
   go_wp2_with fail
   refine (HB.out _ (rdx HP.out (ext_alloc b2.out _)) (rdx HQ.out (ext_alloc b2.out _))).mono ?_
   rintro e w3 ⟨rfl, hb⟩
   have s3 : w2.heap.size + 1 ≤ w3.heap.size := (by have := hb.size; (try simp at this); omega)
   have z3_0 : w.heap.size < w3.heap.size := (by omega)
   have z3_1 : w1.heap.size < w3.heap.size := (by omega)
   have z3_2 : w2.heap.size < w3.heap.size := (by omega)
   have q3_0 : w3.cell? ⟨w.heap.size, 0, none⟩ = some (.int .i64 u) := ext_cell hb (cell_old q2_0 _)
   have q3_1 : w3.cell? ⟨w.heap.size, 1, none⟩ = some (.int .i64 lo) := ext_cell hb (cell_old q2_1 _)
   have q3_2 : w3.cell? ⟨w.heap.size, 2, none⟩ = some (.slice A n c) := ext_cell hb (cell_old q2_2 _)
   have q3_3 : w3.cell? ⟨w1.heap.size, 0, none⟩ = some (.int .i64 U1) := ext_cell hb (cell_old q2_3 _)
   have q3_4 : w3.cell? ⟨w1.heap.size, 1, none⟩ = some (.int .i64 LO1) := ext_cell hb (cell_old q2_4 _)
   have q3_5 : w3.cell? ⟨w1.heap.size, 2, none⟩ = some (.slice Ax L1.length cx) := ext_cell hb (cell_old q2_5 _)
   have q3_6 : w3.cell? ⟨w2.heap.size, 0, none⟩ = some (.int .i64 U2) := ext_cell hb (by simp [go_sem])
   have q3_7 : w3.cell? ⟨w2.heap.size, 1, none⟩ = some (.int .i64 LO2) := ext_cell hb (by simp [go_sem])
   have q3_8 : w3.cell? ⟨w2.heap.size, 2, none⟩ = some (.slice Ay L2.length cy) := ext_cell hb (by simp [go_sem])
   have b3 := Lib.hid (ext_trans (ext_alloc b2.out _) hb)
   have t3 : w.heap.size ≤ w3.heap.size := b3.out.size
   have o3_x := Lib.hid (own_ext (o2_x.out.alloc _) hb)
   have o3_y := Lib.hid (own_ext (oc_y.out.alloc _) hb)
   clear q2_0 q2_1 q2_2 q2_3 q2_4 q2_5
   clear hb
   go_wp2
   go_ret2
   exact ⟨rfl, b3.out⟩
 cases ho1 : plB u lo l p
 · rw [show srV u lo l p q = false by unfold srV; rw [sr_pl, hob, ho1]; rfl]
   rw [Bool.true_and, Bool.false_and]
   rw [hob] at HB
   obtain ⟨X1, hX1⟩ : ∃ o9, plF u lo l p = o9 := ⟨_, rfl⟩
   rw [hX1] at HOP
   obtain ⟨U1, LO1, L1⟩ := X1
   obtain ⟨X2, hX2⟩ : ∃ o9, plF u lo l q = o9 := ⟨_, rfl⟩
   rw [hX2] at HOQ
   obtain ⟨U2, LO2, L2⟩ := X2
   unfold RetFrB at HOP HOQ
   dsimp only at HOP HOQ
   rw [ho1] at HOP
   obtain ⟨o2, ho2⟩ : ∃ o9, plB u lo l q = o9 := ⟨_, rfl⟩
   rw [ho2] at HOQ
   clear hob hX1 hX2 ho1 ho2
   go_enter Try.func11, Try.ntmps11
   go_wp2_with fail
   refine (HOP.out _ (rdx H.out (ext_alloc (ext_refl w) _)) (rdx HP.out (ext_alloc (ext_refl w) _))).mono ?_
   rintro e w1 ⟨Ax, cx, rfl, ho_x, hb⟩
   have s1 : w.heap.size + 1 ≤ w1.heap.size := (by have := hb.size; (try simp at this); omega)
   have z1_0 : w.heap.size < w1.heap.size := (by omega)
   have q1_0 : w1.cell? ⟨w.heap.size, 0, none⟩ = some (.int .i64 u) := ext_cell hb (by simp [go_sem])
   have q1_1 : w1.cell? ⟨w.heap.size, 1, none⟩ = some (.int .i64 lo) := ext_cell hb (by simp [go_sem])
   have q1_2 : w1.cell? ⟨w.heap.size, 2, none⟩ = some (.slice A n c) := ext_cell hb (by simp [go_sem])
   have b1 := Lib.hid (ext_trans (ext_alloc (ext_refl w) _) hb)
   have t1 : w.heap.size ≤ w1.heap.size := b1.out.size
   have oc_x := Lib.hid (own_base (base' := w.heap.size + 1) ho_x (by simp))
   clear ho_x
   clear hb
   go_wp2_with fail
   refine (HOQ.out _ (rdx H.out (ext_alloc b1.out _)) (rdx HQ.out (ext_alloc b1.out _))).mono ?_
   rintro e w2 ⟨Ay, cy, rfl, ho_y, hb⟩
   have s2 : w1.heap.size + 1 ≤ w2.heap.size := (by have := hb.size; (try simp at this); omega)
   have z2_0 : w.heap.size < w2.heap.size := (by omega)
   have z2_1 : w1.heap.size < w2.heap.size := (by omega)
   have q2_0 : w2.cell? ⟨w.heap.size, 0, none⟩ = some (.int .i64 u) := ext_cell hb (cell_old q1_0 _)
   have q2_1 : w2.cell? ⟨w.heap.size, 1, none⟩ = some (.int .i64 lo) := ext_cell hb (cell_old q1_1 _)
   have q2_2 : w2.cell? ⟨w.heap.size, 2, none⟩ = some (.slice A n c) := ext_cell hb (cell_old q1_2 _)
   have q2_3 : w2.cell? ⟨w1.heap.size, 0, none⟩ = some (.int .i64 U1) := ext_cell hb (by simp [go_sem])
   have q2_4 : w2.cell? ⟨w1.heap.size, 1, none⟩ = some (.int .i64 LO1) := ext_cell hb (by simp [go_sem])
   have q2_5 : w2.cell? ⟨w1.heap.size, 2, none⟩ = some (.slice Ax L1.length cx) := ext_cell hb (by simp [go_sem])
   have b2 := Lib.hid (ext_trans (ext_alloc b1.out _) hb)
   have t2 : w.heap.size ≤ w2.heap.size := b2.out.size
   have o2_x := Lib.hid (own_ext (oc_x.out.alloc _) hb)
   clear q1_0 q1_1 q1_2
   have oc_y := Lib.hid (own_base (base' := w1.heap.size + 1) ho_y (by simp))
   clear ho_y
   clear hb
   go_wp2_with fail
   refine (HB.out _ (rdx HP.out (ext_alloc b2.out _)) (rdx HQ.out (ext_alloc b2.out _))).mono ?_
   rintro e w3 ⟨rfl, hb⟩
   have s3 : w2.heap.size + 1 ≤ w3.heap.size := (by have := hb.size; (try simp at this); omega)
   have z3_0 : w.heap.size < w3.heap.size := (by omega)
   have z3_1 : w1.heap.size < w3.heap.size := (by omega)
   have z3_2 : w2.heap.size < w3.heap.size := (by omega)
   have q3_0 : w3.cell? ⟨w.heap.size, 0, none⟩ = some (.int .i64 u) := ext_cell hb (cell_old q2_0 _)
   have q3_1 : w3.cell? ⟨w.heap.size, 1, none⟩ = some (.int .i64 lo) := ext_cell hb (cell_old q2_1 _)
   have q3_2 : w3.cell? ⟨w.heap.size, 2, none⟩ = some (.slice A n c) := ext_cell hb (cell_old q2_2 _)
   have q3_3 : w3.cell? ⟨w1.heap.size, 0, none⟩ = some (.int .i64 U1) := ext_cell hb (cell_old q2_3 _)
   have q3_4 : w3.cell? ⟨w1.heap.size, 1, none⟩ = some (.int .i64 LO1) := ext_cell hb (cell_old q2_4 _)
   have q3_5 : w3.cell? ⟨w1.heap.size, 2, none⟩ = some (.slice Ax L1.length cx) := ext_cell hb (cell_old q2_5 _)
   have q3_6 : w3.cell? ⟨w2.heap.size, 0, none⟩ = some (.int .i64 U2) := ext_cell hb (by simp [go_sem])
   have q3_7 : w3.cell? ⟨w2.heap.size, 1, none⟩ = some (.int .i64 LO2) := ext_cell hb (by simp [go_sem])
   have q3_8 : w3.cell? ⟨w2.heap.size, 2, none⟩ = some (.slice Ay L2.length cy) := ext_cell hb (by simp [go_sem])
   have b3 := Lib.hid (ext_trans (ext_alloc b2.out _) hb)
   have t3 : w.heap.size ≤ w3.heap.size := b3.out.size
   have o3_x := Lib.hid (own_ext (o2_x.out.alloc _) hb)
   have o3_y := Lib.hid (own_ext (oc_y.out.alloc _) hb)
   clear q2_0 q2_1 q2_2 q2_3 q2_4 q2_5
   clear hb
   go_wp2
   go_ret2
   exact ⟨rfl, b3.out⟩
 cases ho2 : plB u lo l q
 · rw [show srV u lo l p q = false by unfold srV; rw [sr_pl, hob, ho1, ho2]; rfl]
   rw [Bool.true_and, Bool.true_and]
   rw [hob] at HB
   obtain ⟨X1, hX1⟩ : ∃ o9, plF u lo l p = o9 := ⟨_, rfl⟩
   rw [hX1] at HOP
   obtain ⟨U1, LO1, L1⟩ := X1
   obtain ⟨X2, hX2⟩ : ∃ o9, plF u lo l q = o9 := ⟨_, rfl⟩
   rw [hX2] at HOQ
   obtain ⟨U2, LO2, L2⟩ := X2
   unfold RetFrB at HOP HOQ
   dsimp only at HOP HOQ
   rw [ho1] at HOP
   rw [ho2] at HOQ
   clear hob hX1 hX2 ho1 ho2
   go_enter Try.func11, Try.ntmps11
   go_wp2_with fail
   refine (HOP.out _ (rdx H.out (ext_alloc (ext_refl w) _)) (rdx HP.out (ext_alloc (ext_refl w) _))).mono ?_
   rintro e w1 ⟨Ax, cx, rfl, ho_x, hb⟩
   have s1 : w.heap.size + 1 ≤ w1.heap.size := (by have := hb.size; (try simp at this); omega)
   have z1_0 : w.heap.size < w1.heap.size := (by omega)
   have q1_0 : w1.cell? ⟨w.heap.size, 0, none⟩ = some (.int .i64 u) := ext_cell hb (by simp [go_sem])
   have q1_1 : w1.cell? ⟨w.heap.size, 1, none⟩ = some (.int .i64 lo) := ext_cell hb (by simp [go_sem])
   have q1_2 : w1.cell? ⟨w.heap.size, 2, none⟩ = some (.slice A n c) := ext_cell hb (by simp [go_sem])
   have b1 := Lib.hid (ext_trans (ext_alloc (ext_refl w) _) hb)
   have t1 : w.heap.size ≤ w1.heap.size := b1.out.size
   have oc_x := Lib.hid (own_base (base' := w.heap.size + 1) ho_x (by simp))
   clear ho_x
   clear hb
   go_wp2_with fail
   refine (HOQ.out _ (rdx H.out (ext_alloc b1.out _)) (rdx HQ.out (ext_alloc b1.out _))).mono ?_
   rintro e w2 ⟨Ay, cy, rfl, ho_y, hb⟩
   have s2 : w1.heap.size + 1 ≤ w2.heap.size := (by have := hb.size; (try simp at this); omega)
   have z2_0 : w.heap.size < w2.heap.size := (by omega)
   have z2_1 : w1.heap.size < w2.heap.size := (by omega)
   have q2_0 : w2.cell? ⟨w.heap.size, 0, none⟩ = some (.int .i64 u) := ext_cell hb (cell_old q1_0 _)
   have q2_1 : w2.cell? ⟨w.heap.size, 1, none⟩ = some (.int .i64 lo) := ext_cell hb (cell_old q1_1 _)
   have q2_2 : w2.cell? ⟨w.heap.size, 2, none⟩ = some (.slice A n c) := ext_cell hb (cell_old q1_2 _)
   have q2_3 : w2.cell? ⟨w1.heap.size, 0, none⟩ = some (.int .i64 U1) := ext_cell hb (by simp [go_sem])
   have q2_4 : w2.cell? ⟨w1.heap.size, 1, none⟩ = some (.int .i64 LO1) := ext_cell hb (by simp [go_sem])
   have q2_5 : w2.cell? ⟨w1.heap.size, 2, none⟩ = some (.slice Ax L1.length cx) := ext_cell hb (by simp [go_sem])
   have b2 := Lib.hid (ext_trans (ext_alloc b1.out _) hb)
   have t2 : w.heap.size ≤ w2.heap.size := b2.out.size
   have o2_x := Lib.hid (own_ext (oc_x.out.alloc _) hb)
   clear q1_0 q1_1 q1_2
   have oc_y := Lib.hid (own_base (base' := w1.heap.size + 1) ho_y (by simp))
   clear ho_y
   clear hb
   go_wp2_with fail
   refine (HB.out _ (rdx HP.out (ext_alloc b2.out _)) (rdx HQ.out (ext_alloc b2.out _))).mono ?_
   rintro e w3 ⟨rfl, hb⟩
   have s3 : w2.heap.size + 1 ≤ w3.heap.size := (by have := hb.size; (try simp at this); omega)
   have z3_0 : w.heap.size < w3.heap.size := (by omega)
   have z3_1 : w1.heap.size < w3.heap.size := (by omega)
   have z3_2 : w2.heap.size < w3.heap.size := (by omega)
   have q3_0 : w3.cell? ⟨w.heap.size, 0, none⟩ = some (.int .i64 u) := ext_cell hb (cell_old q2_0 _)
   have q3_1 : w3.cell? ⟨w.heap.size, 1, none⟩ = some (.int .i64 lo) := ext_cell hb (cell_old q2_1 _)
   have q3_2 : w3.cell? ⟨w.heap.size, 2, none⟩ = some (.slice A n c) := ext_cell hb (cell_old q2_2 _)
   have q3_3 : w3.cell? ⟨w1.heap.size, 0, none⟩ = some (.int .i64 U1) := ext_cell hb (cell_old q2_3 _)
   have q3_4 : w3.cell? ⟨w1.heap.size, 1, none⟩ = some (.int .i64 LO1) := ext_cell hb (cell_old q2_4 _)
   have q3_5 : w3.cell? ⟨w1.heap.size, 2, none⟩ = some (.slice Ax L1.length cx) := ext_cell hb (cell_old q2_5 _)
   have q3_6 : w3.cell? ⟨w2.heap.size, 0, none⟩ = some (.int .i64 U2) := ext_cell hb (by simp [go_sem])
   have q3_7 : w3.cell? ⟨w2.heap.size, 1, none⟩ = some (.int .i64 LO2) := ext_cell hb (by simp [go_sem])
   have q3_8 : w3.cell? ⟨w2.heap.size, 2, none⟩ = some (.slice Ay L2.length cy) := ext_cell hb (by simp [go_sem])
   have b3 := Lib.hid (ext_trans (ext_alloc b2.out _) hb)
   have t3 : w.heap.size ≤ w3.heap.size := b3.out.size
   have o3_x := Lib.hid (own_ext (o2_x.out.alloc _) hb)
   have o3_y := Lib.hid (own_ext (oc_y.out.alloc _) hb)
   clear q2_0 q2_1 q2_2 q2_3 q2_4 q2_5
   clear hb
   go_wp2
   go_ret2
   exact ⟨rfl, b3.out⟩
 · obtain ⟨hf, x, hx, ex⟩ := pl_some ho1
   obtain ⟨_, y, hy, ey⟩ := pl_some ho2
   have hxl : x.length = n := by rw [play_len hx, hl]
   have hyl : y.length = n := by rw [play_len hy, hl]
   have hfx := play_fr hf hx
   have hfy := play_fr hf hy
   rw [show srV u lo l p q = (((btw x y n).length : Int) == 0) by unfold srV; rw [sr_pl, hob, ho1, ho2, hx, hy, Option.getD_some, Option.getD_some, ← hxl]; exact sr_btw hfx hfy (by rw [hxl, hyl])]
   rw [Bool.true_and, Bool.true_and]
   rw [ex, ho1] at HOP
   rw [ey, ho2] at HOQ
   rw [hob] at HB
   unfold RetFrB at HOP HOQ
   dsimp only at HOP HOQ
   rw [hxl] at HOP
   rw [hyl] at HOQ
   have HBT := Lib.hid (fun (Ax Ay : Option Addr) (cx cy : Nat) (w : World) h h' => l4Between_any u lo Ax Ay n cx cy x y w hfx hfy h h')
   have hbl := btw_len x y n
   have hn8 := (frB_head hf).2.2.2
   obtain ⟨N, hN⟩ : ∃ o9, (btw x y n).length = o9 := ⟨_, rfl⟩
   rw [hN] at HBT hbl ⊢
   obtain ⟨R, hR⟩ : ∃ o9, rowsV3 (btw x y n) = o9 := ⟨_, rfl⟩
   rw [hR] at HBT
   clear hob ho1 ho2 ex ey hx hy hfx hfy hf hN hR hxl hyl

   go_enter Try.func11, Try.ntmps11
   go_wp2_with fail
   refine (HOP.out _ (rdx H.out (ext_alloc (ext_refl w) _)) (rdx HP.out (ext_alloc (ext_refl w) _))).mono ?_
   rintro e w1 ⟨Ax, cx, rfl, ho_x, hb⟩
   have s1 : w.heap.size + 1 ≤ w1.heap.size := (by have := hb.size; (try simp at this); omega)
   have z1_0 : w.heap.size < w1.heap.size := (by omega)
   have q1_0 : w1.cell? ⟨w.heap.size, 0, none⟩ = some (.int .i64 u) := ext_cell hb (by simp [go_sem])
   have q1_1 : w1.cell? ⟨w.heap.size, 1, none⟩ = some (.int .i64 lo) := ext_cell hb (by simp [go_sem])
   have q1_2 : w1.cell? ⟨w.heap.size, 2, none⟩ = some (.slice A n c) := ext_cell hb (by simp [go_sem])
   have b1 := Lib.hid (ext_trans (ext_alloc (ext_refl w) _) hb)
   have t1 : w.heap.size ≤ w1.heap.size := b1.out.size
   have oc_x := Lib.hid (own_base (base' := w.heap.size + 1) ho_x (by simp))
   clear ho_x
   clear hb
   go_wp2_with fail
   refine (HOQ.out _ (rdx H.out (ext_alloc b1.out _)) (rdx HQ.out (ext_alloc b1.out _))).mono ?_
   rintro e w2 ⟨Ay, cy, rfl, ho_y, hb⟩
   have s2 : w1.heap.size + 1 ≤ w2.heap.size := (by have := hb.size; (try simp at this); omega)
   have z2_0 : w.heap.size < w2.heap.size := (by omega)
   have z2_1 : w1.heap.size < w2.heap.size := (by omega)
   have q2_0 : w2.cell? ⟨w.heap.size, 0, none⟩ = some (.int .i64 u) := ext_cell hb (cell_old q1_0 _)
   have q2_1 : w2.cell? ⟨w.heap.size, 1, none⟩ = some (.int .i64 lo) := ext_cell hb (cell_old q1_1 _)
   have q2_2 : w2.cell? ⟨w.heap.size, 2, none⟩ = some (.slice A n c) := ext_cell hb (cell_old q1_2 _)
   have q2_3 : w2.cell? ⟨w1.heap.size, 0, none⟩ = some (.int .i64 u) := ext_cell hb (by simp [go_sem])
   have q2_4 : w2.cell? ⟨w1.heap.size, 1, none⟩ = some (.int .i64 lo) := ext_cell hb (by simp [go_sem])
   have q2_5 : w2.cell? ⟨w1.heap.size, 2, none⟩ = some (.slice Ax n cx) := ext_cell hb (by simp [go_sem])
   have b2 := Lib.hid (ext_trans (ext_alloc b1.out _) hb)
   have t2 : w.heap.size ≤ w2.heap.size := b2.out.size
   have o2_x := Lib.hid (own_ext (oc_x.out.alloc _) hb)
   clear q1_0 q1_1 q1_2
   have oc_y := Lib.hid (own_base (base' := w1.heap.size + 1) ho_y (by simp))
   clear ho_y
   clear hb
   go_wp2_with fail
   refine (HB.out _ (rdx HP.out (ext_alloc b2.out _)) (rdx HQ.out (ext_alloc b2.out _))).mono ?_
   rintro e w3 ⟨rfl, hb⟩
   have s3 : w2.heap.size + 1 ≤ w3.heap.size := (by have := hb.size; (try simp at this); omega)
   have z3_0 : w.heap.size < w3.heap.size := (by omega)
   have z3_1 : w1.heap.size < w3.heap.size := (by omega)
   have z3_2 : w2.heap.size < w3.heap.size := (by omega)
   have q3_0 : w3.cell? ⟨w.heap.size, 0, none⟩ = some (.int .i64 u) := ext_cell hb (cell_old q2_0 _)
   have q3_1 : w3.cell? ⟨w.heap.size, 1, none⟩ = some (.int .i64 lo) := ext_cell hb (cell_old q2_1 _)
   have q3_2 : w3.cell? ⟨w.heap.size, 2, none⟩ = some (.slice A n c) := ext_cell hb (cell_old q2_2 _)
   have q3_3 : w3.cell? ⟨w1.heap.size, 0, none⟩ = some (.int .i64 u) := ext_cell hb (cell_old q2_3 _)
   have q3_4 : w3.cell? ⟨w1.heap.size, 1, none⟩ = some (.int .i64 lo) := ext_cell hb (cell_old q2_4 _)
   have q3_5 : w3.cell? ⟨w1.heap.size, 2, none⟩ = some (.slice Ax n cx) := ext_cell hb (cell_old q2_5 _)
   have q3_6 : w3.cell? ⟨w2.heap.size, 0, none⟩ = some (.int .i64 u) := ext_cell hb (by simp [go_sem])
   have q3_7 : w3.cell? ⟨w2.heap.size, 1, none⟩ = some (.int .i64 lo) := ext_cell hb (by simp [go_sem])
   have q3_8 : w3.cell? ⟨w2.heap.size, 2, none⟩ = some (.slice Ay n cy) := ext_cell hb (by simp [go_sem])
   have b3 := Lib.hid (ext_trans (ext_alloc b2.out _) hb)
   have t3 : w.heap.size ≤ w3.heap.size := b3.out.size
   have o3_x := Lib.hid (own_ext (o2_x.out.alloc _) hb)
   have o3_y := Lib.hid (own_ext (oc_y.out.alloc _) hb)
   clear q2_0 q2_1 q2_2 q2_3 q2_4 q2_5
   clear hb
   go_wp2_with fail
   refine (HBT.out Ax Ay cx cy _ (Reads.of_own o3_x.out) (Reads.of_own o3_y.out)).mono ?_
   rintro e w4 ⟨Az, cz, rfl, ho_z, hb⟩
   have s4 : w3.heap.size ≤ w4.heap.size := (by have := hb.size; (try simp at this); omega)
   have z4_0 : w.heap.size < w4.heap.size := (by omega)
   have z4_1 : w1.heap.size < w4.heap.size := (by omega)
   have z4_2 : w2.heap.size < w4.heap.size := (by omega)
   have q4_0 : w4.cell? ⟨w.heap.size, 0, none⟩ = some (.int .i64 u) := ext_cell hb q3_0
   have q4_1 : w4.cell? ⟨w.heap.size, 1, none⟩ = some (.int .i64 lo) := ext_cell hb q3_1
   have q4_2 : w4.cell? ⟨w.heap.size, 2, none⟩ = some (.slice A n c) := ext_cell hb q3_2
   have q4_3 : w4.cell? ⟨w1.heap.size, 0, none⟩ = some (.int .i64 u) := ext_cell hb q3_3
   have q4_4 : w4.cell? ⟨w1.heap.size, 1, none⟩ = some (.int .i64 lo) := ext_cell hb q3_4
   have q4_5 : w4.cell? ⟨w1.heap.size, 2, none⟩ = some (.slice Ax n cx) := ext_cell hb q3_5
   have q4_6 : w4.cell? ⟨w2.heap.size, 0, none⟩ = some (.int .i64 u) := ext_cell hb q3_6
   have q4_7 : w4.cell? ⟨w2.heap.size, 1, none⟩ = some (.int .i64 lo) := ext_cell hb q3_7
   have q4_8 : w4.cell? ⟨w2.heap.size, 2, none⟩ = some (.slice Ay n cy) := ext_cell hb q3_8
   have b4 := Lib.hid (ext_trans b3.out hb)
   have t4 : w.heap.size ≤ w4.heap.size := b4.out.size
   have o4_x := Lib.hid (own_ext o3_x.out hb)
   have o4_y := Lib.hid (own_ext o3_y.out hb)
   clear q3_0 q3_1 q3_2 q3_3 q3_4 q3_5 q3_6 q3_7 q3_8
   have oc_z := Lib.hid (own_base (base' := w3.heap.size + 0) ho_z (by simp))
   clear ho_z
   clear hb
   go_wp2
   go_ret2
   exact ⟨rfl, b4.out⟩
end Go.Proofs.Ytphhelmcaehclaa
