/- SameResult: the program's. -/
import Derived.Test.YtphhelmcaehclaaVM6
import Derived.Test.YtphhelmcaehclaaVWsP
import Derived.Test.YtphhelmcaehclaaVM9
namespace Go.Proofs.Ytphhelmcaehclaa
open Go.RowKit
set_option linter.unusedVariables false
set_option linter.unusedSimpArgs false
def srOk (u lo : Int) (l : List R2) (p q : List R3) : Bool := frB u lo l && rcdB p && rcdB q && (playS u lo l p).isSome && (playS u lo l q).isSome
def srV (u lo : Int) (l : List R2) (p q : List R3) : Bool := srOk u lo l p q && (cmpP ((playS u lo l p).getD []) ((playS u lo l q).getD []) == 0)
theorem rcd_ok {ms : List R3} (h : rcdB ms = true) : ms.all okM = true := by unfold rcdB mvsB at h; simp only [Bool.and_eq_true] at h; exact h.2.2
theorem fr_small {u lo : Int} {l : List R2} (h : frB u lo l = true) : smallR l := by
 intro k r hr
 have := fr_nine h k
 rw [List.getD_eq_getElem?_getD, hr, Option.getD_some] at this
 omega
set_option maxRecDepth 100000 in
set_option maxHeartbeats 4000000 in
theorem implSameResult_any (u lo : Int) (A : Option Addr) (n c : Nat) (l : List R2) (B : Option Addr) (k cb : Nat) (p : List R3) (D : Option Addr) (m cd : Nat) (q : List R3) (w : World) (hn : n ≤ 1048576) (hk : k ≤ 1048576) (hm : m ≤ 1048576) (h : Reads w w.heap.size 2 A n (rowsV2 l)) (hp : Reads w w.heap.size 3 B k (rowsV3 p)) (hq : Reads w w.heap.size 3 D m (rowsV3 q)) :
 Calls Try.prog 10 #[frV u lo A n c, .slice B k cb, .slice D m cd] w (RetV (.tuple #[.bool (srV u lo l p q), .bool (srOk u lo l p q)]) w) := by
 have hl := rows_len2 h
 have H := Lib.hid h
 have HP := Lib.hid hp
 have HQ := Lib.hid hq
 clear h hp hq

 cases hf : frB u lo l
 · rw [show srV u lo l p q = false by simp [srV, srOk, hf], show srOk u lo l p q = false by simp [srOk, hf]]
   have HF := Lib.hid hf
   clear hf
   go_enter Try.func10, Try.ntmps10
   go_wp2_with fail
   refine (isFrame_any u lo A n c l _ hn (rdx H.out (ext_alloc (ext_refl w) _))).mono ?_
   rw [HF.out]
   rintro e w1 ⟨rfl, hb⟩
   have s1 : w.heap.size + 1 ≤ w1.heap.size := (by have := hb.size; (try simp at this); omega)
   have z1_0 : w.heap.size < w1.heap.size := (by omega)
   have q1_0 : w1.cell? ⟨w.heap.size, 0, none⟩ = some (.int .i64 u) := ext_cell hb (by simp [go_sem])
   have q1_1 : w1.cell? ⟨w.heap.size, 1, none⟩ = some (.int .i64 lo) := ext_cell hb (by simp [go_sem])
   have q1_2 : w1.cell? ⟨w.heap.size, 2, none⟩ = some (.slice A n c) := ext_cell hb (by simp [go_sem])
   have b1 := Lib.hid (ext_trans (ext_alloc (ext_refl w) _) hb)
   have t1 : w.heap.size ≤ w1.heap.size := b1.out.size
   clear hb
   go_wp2
   go_ret2
   exact ⟨rfl, b1.out⟩
 cases hrp : rcdB p
 · rw [show srV u lo l p q = false by simp [srV, srOk, hrp], show srOk u lo l p q = false by simp [srOk, hrp]]
   have HF := Lib.hid hf
   have HRP := Lib.hid hrp
   clear hf hrp
   go_enter Try.func10, Try.ntmps10
   go_wp2_with fail
   refine (isFrame_any u lo A n c l _ hn (rdx H.out (ext_alloc (ext_refl w) _))).mono ?_
   rw [HF.out]
   rintro e w1 ⟨rfl, hb⟩
   have s1 : w.heap.size + 1 ≤ w1.heap.size := (by have := hb.size; (try simp at this); omega)
   have z1_0 : w.heap.size < w1.heap.size := (by omega)
   have q1_0 : w1.cell? ⟨w.heap.size, 0, none⟩ = some (.int .i64 u) := ext_cell hb (by simp [go_sem])
   have q1_1 : w1.cell? ⟨w.heap.size, 1, none⟩ = some (.int .i64 lo) := ext_cell hb (by simp [go_sem])
   have q1_2 : w1.cell? ⟨w.heap.size, 2, none⟩ = some (.slice A n c) := ext_cell hb (by simp [go_sem])
   have b1 := Lib.hid (ext_trans (ext_alloc (ext_refl w) _) hb)
   have t1 : w.heap.size ≤ w1.heap.size := b1.out.size
   clear hb
   go_wp2_with fail
   refine (areRecorded_any B k cb p _ hk (rdx HP.out b1.out)).mono ?_
   rw [HRP.out]
   rintro e w2 ⟨rfl, hb⟩
   have s2 : w1.heap.size ≤ w2.heap.size := (by have := hb.size; (try simp at this); omega)
   have z2_0 : w.heap.size < w2.heap.size := (by omega)
   have q2_0 : w2.cell? ⟨w.heap.size, 0, none⟩ = some (.int .i64 u) := ext_cell hb q1_0
   have q2_1 : w2.cell? ⟨w.heap.size, 1, none⟩ = some (.int .i64 lo) := ext_cell hb q1_1
   have q2_2 : w2.cell? ⟨w.heap.size, 2, none⟩ = some (.slice A n c) := ext_cell hb q1_2
   have b2 := Lib.hid (ext_trans b1.out hb)
   have t2 : w.heap.size ≤ w2.heap.size := b2.out.size
   clear q1_0 q1_1 q1_2
   clear hb
   go_wp2
   go_ret2
   exact ⟨rfl, b2.out⟩
 cases hrq : rcdB q
 · rw [show srV u lo l p q = false by simp [srV, srOk, hrq], show srOk u lo l p q = false by simp [srOk, hrq]]
   have HF := Lib.hid hf
   have HRP := Lib.hid hrp
   have HRQ := Lib.hid hrq
   clear hf hrp hrq
   go_enter Try.func10, Try.ntmps10
   go_wp2_with fail
   refine (isFrame_any u lo A n c l _ hn (rdx H.out (ext_alloc (ext_refl w) _))).mono ?_
   rw [HF.out]
   rintro e w1 ⟨rfl, hb⟩
   have s1 : w.heap.size + 1 ≤ w1.heap.size := (by have := hb.size; (try simp at this); omega)
   have z1_0 : w.heap.size < w1.heap.size := (by omega)
   have q1_0 : w1.cell? ⟨w.heap.size, 0, none⟩ = some (.int .i64 u) := ext_cell hb (by simp [go_sem])
   have q1_1 : w1.cell? ⟨w.heap.size, 1, none⟩ = some (.int .i64 lo) := ext_cell hb (by simp [go_sem])
   have q1_2 : w1.cell? ⟨w.heap.size, 2, none⟩ = some (.slice A n c) := ext_cell hb (by simp [go_sem])
   have b1 := Lib.hid (ext_trans (ext_alloc (ext_refl w) _) hb)
   have t1 : w.heap.size ≤ w1.heap.size := b1.out.size
   clear hb
   go_wp2_with fail
   refine (areRecorded_any B k cb p _ hk (rdx HP.out b1.out)).mono ?_
   rw [HRP.out]
   rintro e w2 ⟨rfl, hb⟩
   have s2 : w1.heap.size ≤ w2.heap.size := (by have := hb.size; (try simp at this); omega)
   have z2_0 : w.heap.size < w2.heap.size := (by omega)
   have q2_0 : w2.cell? ⟨w.heap.size, 0, none⟩ = some (.int .i64 u) := ext_cell hb q1_0
   have q2_1 : w2.cell? ⟨w.heap.size, 1, none⟩ = some (.int .i64 lo) := ext_cell hb q1_1
   have q2_2 : w2.cell? ⟨w.heap.size, 2, none⟩ = some (.slice A n c) := ext_cell hb q1_2
   have b2 := Lib.hid (ext_trans b1.out hb)
   have t2 : w.heap.size ≤ w2.heap.size := b2.out.size
   clear q1_0 q1_1 q1_2
   clear hb
   go_wp2_with fail
   refine (areRecorded_any D m cd q _ hm (rdx HQ.out b2.out)).mono ?_
   rw [HRQ.out]
   rintro e w3 ⟨rfl, hb⟩
   have s3 : w2.heap.size ≤ w3.heap.size := (by have := hb.size; (try simp at this); omega)
   have z3_0 : w.heap.size < w3.heap.size := (by omega)
   have q3_0 : w3.cell? ⟨w.heap.size, 0, none⟩ = some (.int .i64 u) := ext_cell hb q2_0
   have q3_1 : w3.cell? ⟨w.heap.size, 1, none⟩ = some (.int .i64 lo) := ext_cell hb q2_1
   have q3_2 : w3.cell? ⟨w.heap.size, 2, none⟩ = some (.slice A n c) := ext_cell hb q2_2
   have b3 := Lib.hid (ext_trans b2.out hb)
   have t3 : w.heap.size ≤ w3.heap.size := b3.out.size
   clear q2_0 q2_1 q2_2
   clear hb
   go_wp2
   go_ret2
   exact ⟨rfl, b3.out⟩
 have HOP := Lib.hid (fun (w : World) h hm => played_any u lo A n c l B k cb p w hf (rcd_ok hrp) hk h hm)
 have HOQ := Lib.hid (fun (w : World) h hn => played_any u lo A n c l D m cd q w hf (rcd_ok hrq) hm h hn)
 rcases hx : playS u lo l p with _ | x
 · rw [show srV u lo l p q = false by simp [srV, srOk, hx], show srOk u lo l p q = false by simp [srOk, hx]]
   rw [hx] at HOP
   have HF := Lib.hid hf
   have HRP := Lib.hid hrp
   have HRQ := Lib.hid hrq
   obtain ⟨X1, hX1⟩ : ∃ o9, playF u lo l p = o9 := ⟨_, rfl⟩
   rw [hX1] at HOP
   obtain ⟨U1, LO1, L1⟩ := X1
   obtain ⟨X2, hX2⟩ : ∃ o9, playF u lo l q = o9 := ⟨_, rfl⟩
   rw [hX2] at HOQ
   obtain ⟨U2, LO2, L2⟩ := X2
   unfold RetFrB at HOP HOQ
   dsimp only at HOP HOQ
   clear hf hrp hrq hx hX1 hX2
   obtain ⟨o2, ho2⟩ : ∃ o9, (playS u lo l q).isSome = o9 := ⟨_, rfl⟩
   rw [ho2] at HOQ
   clear ho2
   rw [show (none : Option (List R2)).isSome = false from rfl] at HOP
   go_enter Try.func10, Try.ntmps10
   go_wp2_with fail
   refine (isFrame_any u lo A n c l _ hn (rdx H.out (ext_alloc (ext_refl w) _))).mono ?_
   rw [HF.out]
   rintro e w1 ⟨rfl, hb⟩
   have s1 : w.heap.size + 1 ≤ w1.heap.size := (by have := hb.size; (try simp at this); omega)
   have z1_0 : w.heap.size < w1.heap.size := (by omega)
   have q1_0 : w1.cell? ⟨w.heap.size, 0, none⟩ = some (.int .i64 u) := ext_cell hb (by simp [go_sem])
   have q1_1 : w1.cell? ⟨w.heap.size, 1, none⟩ = some (.int .i64 lo) := ext_cell hb (by simp [go_sem])
   have q1_2 : w1.cell? ⟨w.heap.size, 2, none⟩ = some (.slice A n c) := ext_cell hb (by simp [go_sem])
   have b1 := Lib.hid (ext_trans (ext_alloc (ext_refl w) _) hb)
   have t1 : w.heap.size ≤ w1.heap.size := b1.out.size
   clear hb
   go_wp2_with fail
   refine (areRecorded_any B k cb p _ hk (rdx HP.out b1.out)).mono ?_
   rw [HRP.out]
   rintro e w2 ⟨rfl, hb⟩
   have s2 : w1.heap.size ≤ w2.heap.size := (by have := hb.size; (try simp at this); omega)
   have z2_0 : w.heap.size < w2.heap.size := (by omega)
   have q2_0 : w2.cell? ⟨w.heap.size, 0, none⟩ = some (.int .i64 u) := ext_cell hb q1_0
   have q2_1 : w2.cell? ⟨w.heap.size, 1, none⟩ = some (.int .i64 lo) := ext_cell hb q1_1
   have q2_2 : w2.cell? ⟨w.heap.size, 2, none⟩ = some (.slice A n c) := ext_cell hb q1_2
   have b2 := Lib.hid (ext_trans b1.out hb)
   have t2 : w.heap.size ≤ w2.heap.size := b2.out.size
   clear q1_0 q1_1 q1_2
   clear hb
   go_wp2_with fail
   refine (areRecorded_any D m cd q _ hm (rdx HQ.out b2.out)).mono ?_
   rw [HRQ.out]
   rintro e w3 ⟨rfl, hb⟩
   have s3 : w2.heap.size ≤ w3.heap.size := (by have := hb.size; (try simp at this); omega)
   have z3_0 : w.heap.size < w3.heap.size := (by omega)
   have q3_0 : w3.cell? ⟨w.heap.size, 0, none⟩ = some (.int .i64 u) := ext_cell hb q2_0
   have q3_1 : w3.cell? ⟨w.heap.size, 1, none⟩ = some (.int .i64 lo) := ext_cell hb q2_1
   have q3_2 : w3.cell? ⟨w.heap.size, 2, none⟩ = some (.slice A n c) := ext_cell hb q2_2
   have b3 := Lib.hid (ext_trans b2.out hb)
   have t3 : w.heap.size ≤ w3.heap.size := b3.out.size
   clear q2_0 q2_1 q2_2
   clear hb
   go_wp2_with fail
   refine (HOP.out _ (rdx H.out b3.out) (rdx HP.out b3.out)).mono ?_
   rintro e w4 ⟨Ax, cx, rfl, ho_x, hb⟩
   have s4 : w3.heap.size ≤ w4.heap.size := (by have := hb.size; (try simp at this); omega)
   have z4_0 : w.heap.size < w4.heap.size := (by omega)
   have q4_0 : w4.cell? ⟨w.heap.size, 0, none⟩ = some (.int .i64 u) := ext_cell hb q3_0
   have q4_1 : w4.cell? ⟨w.heap.size, 1, none⟩ = some (.int .i64 lo) := ext_cell hb q3_1
   have q4_2 : w4.cell? ⟨w.heap.size, 2, none⟩ = some (.slice A n c) := ext_cell hb q3_2
   have b4 := Lib.hid (ext_trans b3.out hb)
   have t4 : w.heap.size ≤ w4.heap.size := b4.out.size
   clear q3_0 q3_1 q3_2
   have oc_x := Lib.hid (own_base (base' := w3.heap.size + 0) ho_x (by simp))
   clear ho_x
   clear hb
   go_wp2_with fail
   refine (HOQ.out _ (rdx H.out (ext_alloc b4.out _)) (rdx HQ.out (ext_alloc b4.out _))).mono ?_
   rintro e w5 ⟨Ay, cy, rfl, ho_y, hb⟩
   have s5 : w4.heap.size + 1 ≤ w5.heap.size := (by have := hb.size; (try simp at this); omega)
   have z5_0 : w.heap.size < w5.heap.size := (by omega)
   have z5_1 : w4.heap.size < w5.heap.size := (by omega)
   have q5_0 : w5.cell? ⟨w.heap.size, 0, none⟩ = some (.int .i64 u) := ext_cell hb (cell_old q4_0 _)
   have q5_1 : w5.cell? ⟨w.heap.size, 1, none⟩ = some (.int .i64 lo) := ext_cell hb (cell_old q4_1 _)
   have q5_2 : w5.cell? ⟨w.heap.size, 2, none⟩ = some (.slice A n c) := ext_cell hb (cell_old q4_2 _)
   have q5_3 : w5.cell? ⟨w4.heap.size, 0, none⟩ = some (.int .i64 U1) := ext_cell hb (by simp [go_sem])
   have q5_4 : w5.cell? ⟨w4.heap.size, 1, none⟩ = some (.int .i64 LO1) := ext_cell hb (by simp [go_sem])
   have q5_5 : w5.cell? ⟨w4.heap.size, 2, none⟩ = some (.slice Ax L1.length cx) := ext_cell hb (by simp [go_sem])
   have b5 := Lib.hid (ext_trans (ext_alloc b4.out _) hb)
   have t5 : w.heap.size ≤ w5.heap.size := b5.out.size
   have o5_x := Lib.hid (own_ext (oc_x.out.alloc _) hb)
   clear q4_0 q4_1 q4_2
   have oc_y := Lib.hid (own_base (base' := w4.heap.size + 1) ho_y (by simp))
   clear ho_y
   clear hb
   go_wp2
   go_ret2
   exact ⟨rfl, (ext_alloc b5.out _)⟩
 rcases hy : playS u lo l q with _ | y
 · rw [show srV u lo l p q = false by simp [srV, srOk, hy], show srOk u lo l p q = false by simp [srOk, hy]]
   rw [hx] at HOP
   rw [hy] at HOQ
   have HF := Lib.hid hf
   have HRP := Lib.hid hrp
   have HRQ := Lib.hid hrq
   obtain ⟨X1, hX1⟩ : ∃ o9, playF u lo l p = o9 := ⟨_, rfl⟩
   rw [hX1] at HOP
   obtain ⟨U1, LO1, L1⟩ := X1
   obtain ⟨X2, hX2⟩ : ∃ o9, playF u lo l q = o9 := ⟨_, rfl⟩
   rw [hX2] at HOQ
   obtain ⟨U2, LO2, L2⟩ := X2
   unfold RetFrB at HOP HOQ
   dsimp only at HOP HOQ
   clear hf hrp hrq hx hy hX1 hX2
   rw [show (none : Option (List R2)).isSome = false from rfl] at HOQ
   rw [show (some x : Option (List R2)).isSome = true from rfl] at HOP
   go_enter Try.func10, Try.ntmps10
   go_wp2_with fail
   refine (isFrame_any u lo A n c l _ hn (rdx H.out (ext_alloc (ext_refl w) _))).mono ?_
   rw [HF.out]
   rintro e w1 ⟨rfl, hb⟩
   have s1 : w.heap.size + 1 ≤ w1.heap.size := (by have := hb.size; (try simp at this); omega)
   have z1_0 : w.heap.size < w1.heap.size := (by omega)
   have q1_0 : w1.cell? ⟨w.heap.size, 0, none⟩ = some (.int .i64 u) := ext_cell hb (by simp [go_sem])
   have q1_1 : w1.cell? ⟨w.heap.size, 1, none⟩ = some (.int .i64 lo) := ext_cell hb (by simp [go_sem])
   have q1_2 : w1.cell? ⟨w.heap.size, 2, none⟩ = some (.slice A n c) := ext_cell hb (by simp [go_sem])
   have b1 := Lib.hid (ext_trans (ext_alloc (ext_refl w) _) hb)
   have t1 : w.heap.size ≤ w1.heap.size := b1.out.size
   clear hb
   go_wp2_with fail
   refine (areRecorded_any B k cb p _ hk (rdx HP.out b1.out)).mono ?_
   rw [HRP.out]
   rintro e w2 ⟨rfl, hb⟩
   have s2 : w1.heap.size ≤ w2.heap.size := (by have := hb.size; (try simp at this); omega)
   have z2_0 : w.heap.size < w2.heap.size := (by omega)
   have q2_0 : w2.cell? ⟨w.heap.size, 0, none⟩ = some (.int .i64 u) := ext_cell hb q1_0
   have q2_1 : w2.cell? ⟨w.heap.size, 1, none⟩ = some (.int .i64 lo) := ext_cell hb q1_1
   have q2_2 : w2.cell? ⟨w.heap.size, 2, none⟩ = some (.slice A n c) := ext_cell hb q1_2
   have b2 := Lib.hid (ext_trans b1.out hb)
   have t2 : w.heap.size ≤ w2.heap.size := b2.out.size
   clear q1_0 q1_1 q1_2
   clear hb
   go_wp2_with fail
   refine (areRecorded_any D m cd q _ hm (rdx HQ.out b2.out)).mono ?_
   rw [HRQ.out]
   rintro e w3 ⟨rfl, hb⟩
   have s3 : w2.heap.size ≤ w3.heap.size := (by have := hb.size; (try simp at this); omega)
   have z3_0 : w.heap.size < w3.heap.size := (by omega)
   have q3_0 : w3.cell? ⟨w.heap.size, 0, none⟩ = some (.int .i64 u) := ext_cell hb q2_0
   have q3_1 : w3.cell? ⟨w.heap.size, 1, none⟩ = some (.int .i64 lo) := ext_cell hb q2_1
   have q3_2 : w3.cell? ⟨w.heap.size, 2, none⟩ = some (.slice A n c) := ext_cell hb q2_2
   have b3 := Lib.hid (ext_trans b2.out hb)
   have t3 : w.heap.size ≤ w3.heap.size := b3.out.size
   clear q2_0 q2_1 q2_2
   clear hb
   go_wp2_with fail
   refine (HOP.out _ (rdx H.out b3.out) (rdx HP.out b3.out)).mono ?_
   rintro e w4 ⟨Ax, cx, rfl, ho_x, hb⟩
   have s4 : w3.heap.size ≤ w4.heap.size := (by have := hb.size; (try simp at this); omega)
   have z4_0 : w.heap.size < w4.heap.size := (by omega)
   have q4_0 : w4.cell? ⟨w.heap.size, 0, none⟩ = some (.int .i64 u) := ext_cell hb q3_0
   have q4_1 : w4.cell? ⟨w.heap.size, 1, none⟩ = some (.int .i64 lo) := ext_cell hb q3_1
   have q4_2 : w4.cell? ⟨w.heap.size, 2, none⟩ = some (.slice A n c) := ext_cell hb q3_2
   have b4 := Lib.hid (ext_trans b3.out hb)
   have t4 : w.heap.size ≤ w4.heap.size := b4.out.size
   clear q3_0 q3_1 q3_2
   have oc_x := Lib.hid (own_base (base' := w3.heap.size + 0) ho_x (by simp))
   clear ho_x
   clear hb
   go_wp2_with fail
   refine (HOQ.out _ (rdx H.out (ext_alloc b4.out _)) (rdx HQ.out (ext_alloc b4.out _))).mono ?_
   rintro e w5 ⟨Ay, cy, rfl, ho_y, hb⟩
   have s5 : w4.heap.size + 1 ≤ w5.heap.size := (by have := hb.size; (try simp at this); omega)
   have z5_0 : w.heap.size < w5.heap.size := (by omega)
   have z5_1 : w4.heap.size < w5.heap.size := (by omega)
   have q5_0 : w5.cell? ⟨w.heap.size, 0, none⟩ = some (.int .i64 u) := ext_cell hb (cell_old q4_0 _)
   have q5_1 : w5.cell? ⟨w.heap.size, 1, none⟩ = some (.int .i64 lo) := ext_cell hb (cell_old q4_1 _)
   have q5_2 : w5.cell? ⟨w.heap.size, 2, none⟩ = some (.slice A n c) := ext_cell hb (cell_old q4_2 _)
   have q5_3 : w5.cell? ⟨w4.heap.size, 0, none⟩ = some (.int .i64 U1) := ext_cell hb (by simp [go_sem])
   have q5_4 : w5.cell? ⟨w4.heap.size, 1, none⟩ = some (.int .i64 LO1) := ext_cell hb (by simp [go_sem])
   have q5_5 : w5.cell? ⟨w4.heap.size, 2, none⟩ = some (.slice Ax L1.length cx) := ext_cell hb (by simp [go_sem])
   have b5 := Lib.hid (ext_trans (ext_alloc b4.out _) hb)
   have t5 : w.heap.size ≤ w5.heap.size := b5.out.size
   have o5_x := Lib.hid (own_ext (oc_x.out.alloc _) hb)
   clear q4_0 q4_1 q4_2
   have oc_y := Lib.hid (own_base (base' := w4.heap.size + 1) ho_y (by simp))
   clear ho_y
   clear hb
   go_wp2
   go_ret2
   exact ⟨rfl, (ext_alloc b5.out _)⟩
 · rw [show srV u lo l p q = (cmpP x y == 0) by simp [srV, srOk, hf, hrp, hrq, hx, hy], show srOk u lo l p q = true by simp [srOk, hf, hrp, hrq, hx, hy]]
   rw [hx] at HOP
   rw [hy] at HOQ
   have HF := Lib.hid hf
   have HRP := Lib.hid hrp
   have HRQ := Lib.hid hrq
   rw [show playF u lo l p = (u, lo, x) by unfold playF; rw [hx]] at HOP
   rw [show playF u lo l q = (u, lo, y) by unfold playF; rw [hy]] at HOQ
   unfold RetFrB at HOP HOQ
   dsimp only at HOP HOQ
   rw [play_len hx, hl] at HOP
   rw [play_len hy, hl] at HOQ
   have HSX := Lib.hid (fr_small (play_fr hf hx))
   have HSY := Lib.hid (fr_small (play_fr hf hy))
   have HCP := Lib.hid (fun (Ax Ay : Option Addr) (cx cy : Nat) (w : World) h h' => comparePairs_any Ax Ay n cx cy x y w hn HSX.out HSY.out h h')
   obtain ⟨Z, hZ⟩ : ∃ o9, cmpP x y = o9 := ⟨_, rfl⟩
   rw [hZ] at HCP ⊢
   clear hZ
   clear hf hrp hrq hx hy
   rw [show (some x : Option (List R2)).isSome = true from rfl] at HOP
   rw [show (some y : Option (List R2)).isSome = true from rfl] at HOQ
   go_enter Try.func10, Try.ntmps10
   go_wp2_with fail
   refine (isFrame_any u lo A n c l _ hn (rdx H.out (ext_alloc (ext_refl w) _))).mono ?_
   rw [HF.out]
   rintro e w1 ⟨rfl, hb⟩
   have s1 : w.heap.size + 1 ≤ w1.heap.size := (by have := hb.size; (try simp at this); omega)
   have z1_0 : w.heap.size < w1.heap.size := (by omega)
   have q1_0 : w1.cell? ⟨w.heap.size, 0, none⟩ = some (.int .i64 u) := ext_cell hb (by simp [go_sem])
   have q1_1 : w1.cell? ⟨w.heap.size, 1, none⟩ = some (.int .i64 lo) := ext_cell hb (by simp [go_sem])
   have q1_2 : w1.cell? ⟨w.heap.size, 2, none⟩ = some (.slice A n c) := ext_cell hb (by simp [go_sem])
   have b1 := Lib.hid (ext_trans (ext_alloc (ext_refl w) _) hb)
   have t1 : w.heap.size ≤ w1.heap.size := b1.out.size
   clear hb
   go_wp2_with fail
   refine (areRecorded_any B k cb p _ hk (rdx HP.out b1.out)).mono ?_
   rw [HRP.out]
   rintro e w2 ⟨rfl, hb⟩
   have s2 : w1.heap.size ≤ w2.heap.size := (by have := hb.size; (try simp at this); omega)
   have z2_0 : w.heap.size < w2.heap.size := (by omega)
   have q2_0 : w2.cell? ⟨w.heap.size, 0, none⟩ = some (.int .i64 u) := ext_cell hb q1_0
   have q2_1 : w2.cell? ⟨w.heap.size, 1, none⟩ = some (.int .i64 lo) := ext_cell hb q1_1
   have q2_2 : w2.cell? ⟨w.heap.size, 2, none⟩ = some (.slice A n c) := ext_cell hb q1_2
   have b2 := Lib.hid (ext_trans b1.out hb)
   have t2 : w.heap.size ≤ w2.heap.size := b2.out.size
   clear q1_0 q1_1 q1_2
   clear hb
   go_wp2_with fail
   refine (areRecorded_any D m cd q _ hm (rdx HQ.out b2.out)).mono ?_
   rw [HRQ.out]
   rintro e w3 ⟨rfl, hb⟩
   have s3 : w2.heap.size ≤ w3.heap.size := (by have := hb.size; (try simp at this); omega)
   have z3_0 : w.heap.size < w3.heap.size := (by omega)
   have q3_0 : w3.cell? ⟨w.heap.size, 0, none⟩ = some (.int .i64 u) := ext_cell hb q2_0
   have q3_1 : w3.cell? ⟨w.heap.size, 1, none⟩ = some (.int .i64 lo) := ext_cell hb q2_1
   have q3_2 : w3.cell? ⟨w.heap.size, 2, none⟩ = some (.slice A n c) := ext_cell hb q2_2
   have b3 := Lib.hid (ext_trans b2.out hb)
   have t3 : w.heap.size ≤ w3.heap.size := b3.out.size
   clear q2_0 q2_1 q2_2
   clear hb
   go_wp2_with fail
   refine (HOP.out _ (rdx H.out b3.out) (rdx HP.out b3.out)).mono ?_
   rintro e w4 ⟨Ax, cx, rfl, ho_x, hb⟩
   have s4 : w3.heap.size ≤ w4.heap.size := (by have := hb.size; (try simp at this); omega)
   have z4_0 : w.heap.size < w4.heap.size := (by omega)
   have q4_0 : w4.cell? ⟨w.heap.size, 0, none⟩ = some (.int .i64 u) := ext_cell hb q3_0
   have q4_1 : w4.cell? ⟨w.heap.size, 1, none⟩ = some (.int .i64 lo) := ext_cell hb q3_1
   have q4_2 : w4.cell? ⟨w.heap.size, 2, none⟩ = some (.slice A n c) := ext_cell hb q3_2
   have b4 := Lib.hid (ext_trans b3.out hb)
   have t4 : w.heap.size ≤ w4.heap.size := b4.out.size
   clear q3_0 q3_1 q3_2
   have oc_x := Lib.hid (own_base (base' := w3.heap.size + 0) ho_x (by simp))
   clear ho_x
   clear hb
   go_wp2_with fail
   refine (HOQ.out _ (rdx H.out (ext_alloc b4.out _)) (rdx HQ.out (ext_alloc b4.out _))).mono ?_
   rintro e w5 ⟨Ay, cy, rfl, ho_y, hb⟩
   have s5 : w4.heap.size + 1 ≤ w5.heap.size := (by have := hb.size; (try simp at this); omega)
   have z5_0 : w.heap.size < w5.heap.size := (by omega)
   have z5_1 : w4.heap.size < w5.heap.size := (by omega)
   have q5_0 : w5.cell? ⟨w.heap.size, 0, none⟩ = some (.int .i64 u) := ext_cell hb (cell_old q4_0 _)
   have q5_1 : w5.cell? ⟨w.heap.size, 1, none⟩ = some (.int .i64 lo) := ext_cell hb (cell_old q4_1 _)
   have q5_2 : w5.cell? ⟨w.heap.size, 2, none⟩ = some (.slice A n c) := ext_cell hb (cell_old q4_2 _)
   have q5_3 : w5.cell? ⟨w4.heap.size, 0, none⟩ = some (.int .i64 u) := ext_cell hb (by simp [go_sem])
   have q5_4 : w5.cell? ⟨w4.heap.size, 1, none⟩ = some (.int .i64 lo) := ext_cell hb (by simp [go_sem])
   have q5_5 : w5.cell? ⟨w4.heap.size, 2, none⟩ = some (.slice Ax n cx) := ext_cell hb (by simp [go_sem])
   have b5 := Lib.hid (ext_trans (ext_alloc b4.out _) hb)
   have t5 : w.heap.size ≤ w5.heap.size := b5.out.size
   have o5_x := Lib.hid (own_ext (oc_x.out.alloc _) hb)
   clear q4_0 q4_1 q4_2
   have oc_y := Lib.hid (own_base (base' := w4.heap.size + 1) ho_y (by simp))
   clear ho_y
   clear hb
   go_wp2_with fail
   refine (HCP.out Ax Ay cx cy _ (Reads.of_own (o5_x.out.alloc _)) (Reads.of_own (oc_y.out.alloc _))).mono ?_
   rintro e w6 ⟨rfl, hb⟩
   have s6 : w5.heap.size + 1 ≤ w6.heap.size := (by have := hb.size; (try simp at this); omega)
   have z6_0 : w.heap.size < w6.heap.size := (by omega)
   have z6_1 : w4.heap.size < w6.heap.size := (by omega)
   have z6_2 : w5.heap.size < w6.heap.size := (by omega)
   have q6_0 : w6.cell? ⟨w.heap.size, 0, none⟩ = some (.int .i64 u) := ext_cell hb (cell_old q5_0 _)
   have q6_1 : w6.cell? ⟨w.heap.size, 1, none⟩ = some (.int .i64 lo) := ext_cell hb (cell_old q5_1 _)
   have q6_2 : w6.cell? ⟨w.heap.size, 2, none⟩ = some (.slice A n c) := ext_cell hb (cell_old q5_2 _)
   have q6_3 : w6.cell? ⟨w4.heap.size, 0, none⟩ = some (.int .i64 u) := ext_cell hb (cell_old q5_3 _)
   have q6_4 : w6.cell? ⟨w4.heap.size, 1, none⟩ = some (.int .i64 lo) := ext_cell hb (cell_old q5_4 _)
   have q6_5 : w6.cell? ⟨w4.heap.size, 2, none⟩ = some (.slice Ax n cx) := ext_cell hb (cell_old q5_5 _)
   have q6_6 : w6.cell? ⟨w5.heap.size, 0, none⟩ = some (.int .i64 u) := ext_cell hb (by simp [go_sem])
   have q6_7 : w6.cell? ⟨w5.heap.size, 1, none⟩ = some (.int .i64 lo) := ext_cell hb (by simp [go_sem])
   have q6_8 : w6.cell? ⟨w5.heap.size, 2, none⟩ = some (.slice Ay n cy) := ext_cell hb (by simp [go_sem])
   have b6 := Lib.hid (ext_trans (ext_alloc b5.out _) hb)
   have t6 : w.heap.size ≤ w6.heap.size := b6.out.size
   have o6_x := Lib.hid (own_ext (o5_x.out.alloc _) hb)
   have o6_y := Lib.hid (own_ext (oc_y.out.alloc _) hb)
   clear q5_0 q5_1 q5_2 q5_3 q5_4 q5_5
   clear hb
   go_wp2
   go_ret2
   exact ⟨rfl, b6.out⟩
end Go.Proofs.Ytphhelmcaehclaa
