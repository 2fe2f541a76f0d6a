
/- The law of RunMind, walked. -/
import Derived.Test.YtlkfffohjeoooaaRmI
import Derived.Test.YtlkfffohjeoooaaRmS
import Derived.Test.YtlkfffohjeoooaaMdH
namespace Go.Proofs.Ytlkfffohjeoooaa
open Go.RowKit
set_option linter.unusedVariables false
set_option linter.unusedSimpArgs false
def resU (o : Option (Md × Nat)) : Md × Nat := o.getD (⟨0, 0, [], [], [], 0, 0⟩, 0)
theorem resU_len {q : Md} {ss : List R2} : (resU (runO q ss)).1.l.length ≤ 1048576 ∧ (resU (runO q ss)).1.cl.length ≤ 1048576 ∧ (resU (runO q ss)).1.im.length ≤ 1048576 := by
  unfold runO
  split
  · rename_i h
    exact ok_len (runMi_ok h.1 ss ss.length)
  · exact ⟨Nat.zero_le _, Nat.zero_le _, Nat.zero_le _⟩
/-- a mind, a count and a bool come back, in one form -/
def RetUR (w : World) (x : Md × Nat) (ok : Bool) (e : Ending) (w' : World) : Prop :=
  ∃ A c K kc I ic, e = .returned (.tuple #[mdV x.1.u x.1.lo A x.1.l.length c K x.1.cl.length kc I x.1.im.length ic x.1.be x.1.gu, .int .i64 x.2, .bool ok]) ∧ (Value.ownBlock (.slice K x.1.cl.length kc) = none ∨ Value.ownBlock (.slice K x.1.cl.length kc) ≠ Value.ownBlock (.slice I x.1.im.length ic)) ∧
    w'.ownsRow w.heap.size 155 2 (.slice A x.1.l.length c) x.1.l.length (rowsV2 x.1.l) ∧ w'.ownsRow w.heap.size 3 1 (.slice K x.1.cl.length kc) x.1.cl.length (intsV x.1.cl) ∧ w'.ownsRow w.heap.size 3 1 (.slice I x.1.im.length ic) x.1.im.length (intsV x.1.im) ∧ Below w.heap.size w w'
theorem retUR (o : Option (Md × Nat)) (w : World) (e : Ending) (w' : World) (h : RetRu w o e w') : RetUR w (resU o) o.isSome e w' := by
  cases o with
  | none =>
    obtain ⟨rfl, hb⟩ := h
    exact ⟨none, 0, none, 0, none, 0, rfl, .inl rfl, World.ownsRow_nil _ _ _ _, World.ownsRow_nil _ _ _ _, World.ownsRow_nil _ _ _ _, hb⟩
  | some x =>
    obtain ⟨q, cnt⟩ := x
    show RetUR w (q, cnt) true e w'
    obtain ⟨h, c, g, kc, i, ic, rfl, hr, hc, hi, hne, hb⟩ := h
    have e1 := ints_len (Reads.of_own hc)
    have e2 := ints_len (Reads.of_own hi)
    unfold RetUR
    dsimp only
    rw [e1, e2]
    exact ⟨_, c, _, kc, _, ic, rfl, .inr (by intro e; injection e with e; exact hne e), hr, hc, hi, hb⟩
set_option maxRecDepth 100000 in
set_option maxHeartbeats 8000000 in
theorem law_RunMind (u lo : Int) (A : Option Addr) (n c : Nat) (l : List R2) (K : Option Addr) (k kc : Nat) (cl : List Int) (I : Option Addr) (m ic : Nat) (im : List Int) (be gu : Int) (Bs : Option Addr) (n2 cb : Nat) (ss : List R2) (w : World) (hn : n ≤ maxLen) (hk : k ≤ maxLen) (hm : m ≤ maxLen) (hn2 : n2 ≤ maxLen) (h : Reads w w.heap.size 2 A n (rowsV2 l)) (hc : Reads w w.heap.size 1 K k (intsV cl)) (hi : Reads w w.heap.size 1 I m (intsV im)) (hs : Reads w w.heap.size 2 Bs n2 (rowsV2 ss)) :
    Calls Try.prog 7 #[mdV u lo A n c K k kc I m ic be gu, .slice Bs n2 cb] w fun e w' => e = .returned (.bool true) ∧ Below w.heap.size w w' := by
  unfold maxLen at hn hk hm hn2
  have HS := Lib.hid (fun w => szMind_any u lo A n c K k kc I m ic be gu 1048576 w hn hk hm (by omega) (by omega))
  have H := Lib.hid h
  have HC := Lib.hid hc
  have HI := Lib.hid hi
  have HSS := Lib.hid hs
  clear h hc hi hs
  by_cases hbig : (1048576 : Int) < n + k + m
  · rw [szMv_no hbig] at HS
    go_enter Try.func7, Try.ntmps7
    go_wp2_with (go_at_call 26; refine (HS.out _).mono ?_; rintro e w' ⟨rfl, hb⟩)
    go_ret
    exact ⟨rfl, (by repeat (first | exact ext_refl _ | assumption | refine ext_alloc ?_ _ | refine ext_drew ?_ | refine ext_drewN ?_ _ | refine ext_set ?_ (by simp <;> omega) _ | refine ext_trans ?_ (by assumption)))⟩
  rw [szMv_yes hbig] at HS
  have hneg : ¬ (1048576 : Int) - n - k - m < 0 := by omega
  have HT := Lib.hid (fun w => szMindStepS_any Bs n2 cb (1048576 - n - k - m) w (by omega) (by omega) (by omega))
  by_cases hbig2 : (1048576 : Int) - n - k - m < n2
  · rw [szv_no hbig2] at HT
    go_enter Try.func7, Try.ntmps7
    go_wp2_with fail
    refine (HS.out _).mono ?_
    rintro e w1 ⟨rfl, hb1⟩
    go_wp2_with fail
    refine (HT.out _).mono ?_
    rintro e w2 ⟨rfl, rfl⟩
    go_wp2
    go_ret
    exact ⟨rfl, ext_trans (ext_alloc (ext_refl _) _) hb1⟩
  rw [szv_yes hbig2] at HT
  have hneg2 : ¬ (1048576 : Int) - n - k - m - n2 < 0 := by omega
  have hn : n ≤ 1048576 := by omega
  have hk : k ≤ 1048576 := by omega
  have hm : m ≤ 1048576 := by omega
  have hn2 : n2 ≤ 1048576 := by omega
  have hN := resU_len (q := ⟨u, lo, l, cl, im, be, gu⟩) (ss := ss)
  have HA := Lib.hid (fun (w : World) (A : Option Addr) (c : Nat) (K : Option Addr) (kc : Nat) (I : Option Addr) (ic : Nat) (B : Option Addr) (cb : Nat) h hc hi hs => (specRunMind_any u lo A n c l K k kc cl I m ic im be gu B n2 cb ss w hn hk hm hn2 h hc hi hs).mono (retUR _ w))
  have HB := Lib.hid (fun (w : World) (A : Option Addr) (c : Nat) (K : Option Addr) (kc : Nat) (I : Option Addr) (ic : Nat) (B : Option Addr) (cb : Nat) h hc hi hs => (implRunMind_any u lo A n c l K k kc cl I m ic im be gu B n2 cb ss w hn hk hm hn2 h hc hi hs).mono (retUR _ w))
  obtain ⟨O, hO⟩ : ∃ O, runO ⟨u, lo, l, cl, im, be, gu⟩ ss = O := ⟨_, rfl⟩
  rw [hO] at HA HB hN
  obtain ⟨ok, hok⟩ : ∃ ok, O.isSome = ok := ⟨_, rfl⟩
  obtain ⟨X, hX⟩ : ∃ X, resU O = X := ⟨_, rfl⟩
  rw [hX, hok] at HA HB
  rw [hX] at hN
  clear hO hok hX
  obtain ⟨⟨U, LO, L, CL, IM, BE, GU⟩, cnt⟩ := X
  unfold RetUR at HA HB
  dsimp only at HA HB hN
  obtain ⟨N, hNL⟩ : ∃ N, L.length = N := ⟨_, rfl⟩
  obtain ⟨NK, hNK⟩ : ∃ N, CL.length = N := ⟨_, rfl⟩
  obtain ⟨NI, hNI⟩ : ∃ N, IM.length = N := ⟨_, rfl⟩
  rw [hNL, hNK, hNI] at HA HB hN
  clear hNL hNK hNI
  obtain ⟨hN, hNK, hNI⟩ := hN
  go_enter Try.func7, Try.ntmps7
  go_wp2_with fail
  refine (HS.out _).mono ?_
  rintro e w1 ⟨rfl, hb⟩
  have s1 : w.heap.size + 1 ≤ w1.heap.size := (by have := hb.size; (try simp at this); omega)
  have z1_0 : w.heap.size < w1.heap.size := (by omega)
  have q1_0 : w1.cell? ⟨w.heap.size, 0, none⟩ = some (.int .i64 u) := ext_cell hb (by simp [go_sem])
  have q1_1 : w1.cell? ⟨w.heap.size, 1, none⟩ = some (.int .i64 lo) := ext_cell hb (by simp [go_sem])
  have q1_2 : w1.cell? ⟨w.heap.size, 2, none⟩ = some (.slice A n c) := ext_cell hb (by simp [go_sem])
  have q1_3 : w1.cell? ⟨w.heap.size, 3, none⟩ = some (.slice K k kc) := ext_cell hb (by simp [go_sem])
  have q1_4 : w1.cell? ⟨w.heap.size, 4, none⟩ = some (.slice I m ic) := ext_cell hb (by simp [go_sem])
  have q1_5 : w1.cell? ⟨w.heap.size, 5, none⟩ = some (.int .i64 be) := ext_cell hb (by simp [go_sem])
  have q1_6 : w1.cell? ⟨w.heap.size, 6, none⟩ = some (.int .i64 gu) := ext_cell hb (by simp [go_sem])
  have b1 := Lib.hid (ext_trans (ext_alloc (ext_refl w) _) hb)
  have t1 : w.heap.size ≤ w1.heap.size := b1.out.size
  clear hb
  go_wp2_with fail
  refine (HT.out _).mono ?_
  rintro e wz ⟨rfl, rfl⟩
  go_wp2_with fail
  refine (toMind_any u lo A n c l K k kc cl I m ic im be gu _ hn hk hm ((H.out.ext b1.out (Nat.le_refl _)).more (by first | omega | (simp <;> omega))) ((HC.out.ext b1.out (Nat.le_refl _)).more (by first | omega | (simp <;> omega))) ((HI.out.ext b1.out (Nat.le_refl _)).more (by first | omega | (simp <;> omega)))).mono ?_
  rintro e w2 ⟨Ava, cva, Avk, cvk, Avi, cvi, rfl, hne_v, ho_va, ho_vk, ho_vi, hb⟩
  have s2 : w1.heap.size ≤ w2.heap.size := (by have := hb.size; (try simp at this); omega)
  have z2_0 : w.heap.size < w2.heap.size := (by omega)
  have q2_0 : w2.cell? ⟨w.heap.size, 0, none⟩ = some (.int .i64 u) := ext_cell hb q1_0
  have q2_1 : w2.cell? ⟨w.heap.size, 1, none⟩ = some (.int .i64 lo) := ext_cell hb q1_1
  have q2_2 : w2.cell? ⟨w.heap.size, 2, none⟩ = some (.slice A n c) := ext_cell hb q1_2
  have q2_3 : w2.cell? ⟨w.heap.size, 3, none⟩ = some (.slice K k kc) := ext_cell hb q1_3
  have q2_4 : w2.cell? ⟨w.heap.size, 4, none⟩ = some (.slice I m ic) := ext_cell hb q1_4
  have q2_5 : w2.cell? ⟨w.heap.size, 5, none⟩ = some (.int .i64 be) := ext_cell hb q1_5
  have q2_6 : w2.cell? ⟨w.heap.size, 6, none⟩ = some (.int .i64 gu) := ext_cell hb q1_6
  have b2 := Lib.hid (ext_trans b1.out hb)
  have t2 : w.heap.size ≤ w2.heap.size := b2.out.size
  clear q1_0 q1_1 q1_2 q1_3 q1_4 q1_5 q1_6
  have oc_va := Lib.hid (own_base (base' := w1.heap.size + 0) ho_va (by simp))
  clear ho_va
  have oc_vk := Lib.hid (own_base (base' := w1.heap.size + 0) ho_vk (by simp))
  clear ho_vk
  have oc_vi := Lib.hid (own_base (base' := w1.heap.size + 0) ho_vi (by simp))
  clear ho_vi
  clear hb
  have Hhne_v := Lib.hid hne_v
  clear hne_v
  go_wp2_with fail
  refine (toMindStepS_any Bs n2 cb ss _ hn2 ((HSS.out.ext b2.out (Nat.le_refl _)).more (by first | omega | (simp <;> omega)))).mono ?_
  rintro e w3 ⟨At, ct, rfl, ho_t, hb⟩
  have s3 : w2.heap.size ≤ w3.heap.size := (by have := hb.size; (try simp at this); omega)
  have z3_0 : w.heap.size < w3.heap.size := (by omega)
  have q3_0 : w3.cell? ⟨w.heap.size, 0, none⟩ = some (.int .i64 u) := ext_cell hb q2_0
  have q3_1 : w3.cell? ⟨w.heap.size, 1, none⟩ = some (.int .i64 lo) := ext_cell hb q2_1
  have q3_2 : w3.cell? ⟨w.heap.size, 2, none⟩ = some (.slice A n c) := ext_cell hb q2_2
  have q3_3 : w3.cell? ⟨w.heap.size, 3, none⟩ = some (.slice K k kc) := ext_cell hb q2_3
  have q3_4 : w3.cell? ⟨w.heap.size, 4, none⟩ = some (.slice I m ic) := ext_cell hb q2_4
  have q3_5 : w3.cell? ⟨w.heap.size, 5, none⟩ = some (.int .i64 be) := ext_cell hb q2_5
  have q3_6 : w3.cell? ⟨w.heap.size, 6, none⟩ = some (.int .i64 gu) := ext_cell hb q2_6
  have b3 := Lib.hid (ext_trans b2.out hb)
  have t3 : w.heap.size ≤ w3.heap.size := b3.out.size
  have o3_va := Lib.hid (own_ext oc_va.out hb)
  have o3_vk := Lib.hid (own_ext oc_vk.out hb)
  have o3_vi := Lib.hid (own_ext oc_vi.out hb)
  clear q2_0 q2_1 q2_2 q2_3 q2_4 q2_5 q2_6
  have oc_t := Lib.hid (own_base (base' := w2.heap.size + 0) ho_t (by simp))
  clear ho_t
  clear hb
  go_wp2_with fail
  refine (HA.out _ Ava cva Avk cvk Avi cvi At ct (Reads.of_own o3_va.out) (Reads.of_own o3_vk.out) (Reads.of_own o3_vi.out) (Reads.of_own oc_t.out)).mono ?_
  rintro e w4 ⟨Awa, cwa, Awk, cwk, Awi, cwi, rfl, hne_w, ho_wa, ho_wk, ho_wi, hb⟩
  have s4 : w3.heap.size ≤ w4.heap.size := (by have := hb.size; (try simp at this); omega)
  have z4_0 : w.heap.size < w4.heap.size := (by omega)
  have q4_0 : w4.cell? ⟨w.heap.size, 0, none⟩ = some (.int .i64 u) := ext_cell hb q3_0
  have q4_1 : w4.cell? ⟨w.heap.size, 1, none⟩ = some (.int .i64 lo) := ext_cell hb q3_1
  have q4_2 : w4.cell? ⟨w.heap.size, 2, none⟩ = some (.slice A n c) := ext_cell hb q3_2
  have q4_3 : w4.cell? ⟨w.heap.size, 3, none⟩ = some (.slice K k kc) := ext_cell hb q3_3
  have q4_4 : w4.cell? ⟨w.heap.size, 4, none⟩ = some (.slice I m ic) := ext_cell hb q3_4
  have q4_5 : w4.cell? ⟨w.heap.size, 5, none⟩ = some (.int .i64 be) := ext_cell hb q3_5
  have q4_6 : w4.cell? ⟨w.heap.size, 6, none⟩ = some (.int .i64 gu) := ext_cell hb q3_6
  have b4 := Lib.hid (ext_trans b3.out hb)
  have t4 : w.heap.size ≤ w4.heap.size := b4.out.size
  have o4_va := Lib.hid (own_ext o3_va.out hb)
  have o4_vk := Lib.hid (own_ext o3_vk.out hb)
  have o4_vi := Lib.hid (own_ext o3_vi.out hb)
  have o4_t := Lib.hid (own_ext oc_t.out hb)
  clear q3_0 q3_1 q3_2 q3_3 q3_4 q3_5 q3_6
  have oc_wa := Lib.hid (own_base (base' := w3.heap.size + 0) ho_wa (by simp))
  clear ho_wa
  have oc_wk := Lib.hid (own_base (base' := w3.heap.size + 0) ho_wk (by simp))
  clear ho_wk
  have oc_wi := Lib.hid (own_base (base' := w3.heap.size + 0) ho_wi (by simp))
  clear ho_wi
  clear hb
  have Hhne_w := Lib.hid hne_w
  clear hne_w
  go_wp2_with fail
  refine (toMind_any u lo A n c l K k kc cl I m ic im be gu _ hn hk hm ((H.out.ext (ext_alloc b4.out _) (Nat.le_refl _)).more (by first | omega | (simp <;> omega))) ((HC.out.ext (ext_alloc b4.out _) (Nat.le_refl _)).more (by first | omega | (simp <;> omega))) ((HI.out.ext (ext_alloc b4.out _) (Nat.le_refl _)).more (by first | omega | (simp <;> omega)))).mono ?_
  rintro e w5 ⟨Axa, cxa, Axk, cxk, Axi, cxi, rfl, hne_x, ho_xa, ho_xk, ho_xi, hb⟩
  have s5 : w4.heap.size + 1 ≤ w5.heap.size := (by have := hb.size; (try simp at this); omega)
  have z5_0 : w.heap.size < w5.heap.size := (by omega)
  have z5_1 : w4.heap.size < w5.heap.size := (by omega)
  have q5_0 : w5.cell? ⟨w.heap.size, 0, none⟩ = some (.int .i64 u) := ext_cell hb (cell_old q4_0 _)
  have q5_1 : w5.cell? ⟨w.heap.size, 1, none⟩ = some (.int .i64 lo) := ext_cell hb (cell_old q4_1 _)
  have q5_2 : w5.cell? ⟨w.heap.size, 2, none⟩ = some (.slice A n c) := ext_cell hb (cell_old q4_2 _)
  have q5_3 : w5.cell? ⟨w.heap.size, 3, none⟩ = some (.slice K k kc) := ext_cell hb (cell_old q4_3 _)
  have q5_4 : w5.cell? ⟨w.heap.size, 4, none⟩ = some (.slice I m ic) := ext_cell hb (cell_old q4_4 _)
  have q5_5 : w5.cell? ⟨w.heap.size, 5, none⟩ = some (.int .i64 be) := ext_cell hb (cell_old q4_5 _)
  have q5_6 : w5.cell? ⟨w.heap.size, 6, none⟩ = some (.int .i64 gu) := ext_cell hb (cell_old q4_6 _)
  have q5_7 : w5.cell? ⟨w4.heap.size, 0, none⟩ = some (.int .i64 U) := ext_cell hb (by simp [go_sem])
  have q5_8 : w5.cell? ⟨w4.heap.size, 1, none⟩ = some (.int .i64 LO) := ext_cell hb (by simp [go_sem])
  have q5_9 : w5.cell? ⟨w4.heap.size, 2, none⟩ = some (.slice Awa N cwa) := ext_cell hb (by simp [go_sem])
  have q5_10 : w5.cell? ⟨w4.heap.size, 3, none⟩ = some (.slice Awk NK cwk) := ext_cell hb (by simp [go_sem])
  have q5_11 : w5.cell? ⟨w4.heap.size, 4, none⟩ = some (.slice Awi NI cwi) := ext_cell hb (by simp [go_sem])
  have q5_12 : w5.cell? ⟨w4.heap.size, 5, none⟩ = some (.int .i64 BE) := ext_cell hb (by simp [go_sem])
  have q5_13 : w5.cell? ⟨w4.heap.size, 6, none⟩ = some (.int .i64 GU) := ext_cell hb (by simp [go_sem])
  have b5 := Lib.hid (ext_trans (ext_alloc b4.out _) hb)
  have t5 : w.heap.size ≤ w5.heap.size := b5.out.size
  have o5_wa := Lib.hid (own_ext (oc_wa.out.alloc _) hb)
  have o5_wk := Lib.hid (own_ext (oc_wk.out.alloc _) hb)
  have o5_wi := Lib.hid (own_ext (oc_wi.out.alloc _) hb)
  clear q4_0 q4_1 q4_2 q4_3 q4_4 q4_5 q4_6
  have oc_xa := Lib.hid (own_base (base' := w4.heap.size + 1) ho_xa (by simp))
  clear ho_xa
  have oc_xk := Lib.hid (own_base (base' := w4.heap.size + 1) ho_xk (by simp))
  clear ho_xk
  have oc_xi := Lib.hid (own_base (base' := w4.heap.size + 1) ho_xi (by simp))
  clear ho_xi
  clear hb
  have Hhne_x := Lib.hid hne_x
  clear hne_x
  go_wp2_with fail
  refine (toMindStepS_any Bs n2 cb ss _ hn2 ((HSS.out.ext (ext_alloc b5.out _) (Nat.le_refl _)).more (by first | omega | (simp <;> omega)))).mono ?_
  rintro e w6 ⟨Ay, cy, rfl, ho_y, hb⟩
  have s6 : w5.heap.size + 1 ≤ w6.heap.size := (by have := hb.size; (try simp at this); omega)
  have z6_0 : w.heap.size < w6.heap.size := (by omega)
  have z6_1 : w4.heap.size < w6.heap.size := (by omega)
  have z6_2 : w5.heap.size < w6.heap.size := (by omega)
  have q6_0 : w6.cell? ⟨w.heap.size, 0, none⟩ = some (.int .i64 u) := ext_cell hb (cell_old q5_0 _)
  have q6_1 : w6.cell? ⟨w.heap.size, 1, none⟩ = some (.int .i64 lo) := ext_cell hb (cell_old q5_1 _)
  have q6_2 : w6.cell? ⟨w.heap.size, 2, none⟩ = some (.slice A n c) := ext_cell hb (cell_old q5_2 _)
  have q6_3 : w6.cell? ⟨w.heap.size, 3, none⟩ = some (.slice K k kc) := ext_cell hb (cell_old q5_3 _)
  have q6_4 : w6.cell? ⟨w.heap.size, 4, none⟩ = some (.slice I m ic) := ext_cell hb (cell_old q5_4 _)
  have q6_5 : w6.cell? ⟨w.heap.size, 5, none⟩ = some (.int .i64 be) := ext_cell hb (cell_old q5_5 _)
  have q6_6 : w6.cell? ⟨w.heap.size, 6, none⟩ = some (.int .i64 gu) := ext_cell hb (cell_old q5_6 _)
  have q6_7 : w6.cell? ⟨w4.heap.size, 0, none⟩ = some (.int .i64 U) := ext_cell hb (cell_old q5_7 _)
  have q6_8 : w6.cell? ⟨w4.heap.size, 1, none⟩ = some (.int .i64 LO) := ext_cell hb (cell_old q5_8 _)
  have q6_9 : w6.cell? ⟨w4.heap.size, 2, none⟩ = some (.slice Awa N cwa) := ext_cell hb (cell_old q5_9 _)
  have q6_10 : w6.cell? ⟨w4.heap.size, 3, none⟩ = some (.slice Awk NK cwk) := ext_cell hb (cell_old q5_10 _)
  have q6_11 : w6.cell? ⟨w4.heap.size, 4, none⟩ = some (.slice Awi NI cwi) := ext_cell hb (cell_old q5_11 _)
  have q6_12 : w6.cell? ⟨w4.heap.size, 5, none⟩ = some (.int .i64 BE) := ext_cell hb (cell_old q5_12 _)
  have q6_13 : w6.cell? ⟨w4.heap.size, 6, none⟩ = some (.int .i64 GU) := ext_cell hb (cell_old q5_13 _)
  have q6_14 : w6.cell? ⟨w5.heap.size, 0, none⟩ = some (.int .i64 u) := ext_cell hb (by simp [go_sem])
  have q6_15 : w6.cell? ⟨w5.heap.size, 1, none⟩ = some (.int .i64 lo) := ext_cell hb (by simp [go_sem])
  have q6_16 : w6.cell? ⟨w5.heap.size, 2, none⟩ = some (.slice Axa n cxa) := ext_cell hb (by simp [go_sem])
  have q6_17 : w6.cell? ⟨w5.heap.size, 3, none⟩ = some (.slice Axk k cxk) := ext_cell hb (by simp [go_sem])
  have q6_18 : w6.cell? ⟨w5.heap.size, 4, none⟩ = some (.slice Axi m cxi) := ext_cell hb (by simp [go_sem])
  have q6_19 : w6.cell? ⟨w5.heap.size, 5, none⟩ = some (.int .i64 be) := ext_cell hb (by simp [go_sem])
  have q6_20 : w6.cell? ⟨w5.heap.size, 6, none⟩ = some (.int .i64 gu) := ext_cell hb (by simp [go_sem])
  have b6 := Lib.hid (ext_trans (ext_alloc b5.out _) hb)
  have t6 : w.heap.size ≤ w6.heap.size := b6.out.size
  have o6_wa := Lib.hid (own_ext (o5_wa.out.alloc _) hb)
  have o6_wk := Lib.hid (own_ext (o5_wk.out.alloc _) hb)
  have o6_wi := Lib.hid (own_ext (o5_wi.out.alloc _) hb)
  have o6_xa := Lib.hid (own_ext (oc_xa.out.alloc _) hb)
  have o6_xk := Lib.hid (own_ext (oc_xk.out.alloc _) hb)
  have o6_xi := Lib.hid (own_ext (oc_xi.out.alloc _) hb)
  clear q5_0 q5_1 q5_2 q5_3 q5_4 q5_5 q5_6 q5_7 q5_8 q5_9 q5_10 q5_11 q5_12 q5_13
  have oc_y := Lib.hid (own_base (base' := w5.heap.size + 1) ho_y (by simp))
  clear ho_y
  clear hb
  go_wp2_with fail
  refine (HB.out _ Axa cxa Axk cxk Axi cxi Ay cy (Reads.of_own o6_xa.out) (Reads.of_own o6_xk.out) (Reads.of_own o6_xi.out) (Reads.of_own oc_y.out)).mono ?_
  rintro e w7 ⟨Aga, cga, Agk, cgk, Agi, cgi, rfl, hne_g, ho_ga, ho_gk, ho_gi, hb⟩
  have s7 : w6.heap.size ≤ w7.heap.size := (by have := hb.size; (try simp at this); omega)
  have z7_0 : w.heap.size < w7.heap.size := (by omega)
  have z7_1 : w4.heap.size < w7.heap.size := (by omega)
  have z7_2 : w5.heap.size < w7.heap.size := (by omega)
  have q7_0 : w7.cell? ⟨w.heap.size, 0, none⟩ = some (.int .i64 u) := ext_cell hb q6_0
  have q7_1 : w7.cell? ⟨w.heap.size, 1, none⟩ = some (.int .i64 lo) := ext_cell hb q6_1
  have q7_2 : w7.cell? ⟨w.heap.size, 2, none⟩ = some (.slice A n c) := ext_cell hb q6_2
  have q7_3 : w7.cell? ⟨w.heap.size, 3, none⟩ = some (.slice K k kc) := ext_cell hb q6_3
  have q7_4 : w7.cell? ⟨w.heap.size, 4, none⟩ = some (.slice I m ic) := ext_cell hb q6_4
  have q7_5 : w7.cell? ⟨w.heap.size, 5, none⟩ = some (.int .i64 be) := ext_cell hb q6_5
  have q7_6 : w7.cell? ⟨w.heap.size, 6, none⟩ = some (.int .i64 gu) := ext_cell hb q6_6
  have q7_7 : w7.cell? ⟨w4.heap.size, 0, none⟩ = some (.int .i64 U) := ext_cell hb q6_7
  have q7_8 : w7.cell? ⟨w4.heap.size, 1, none⟩ = some (.int .i64 LO) := ext_cell hb q6_8
  have q7_9 : w7.cell? ⟨w4.heap.size, 2, none⟩ = some (.slice Awa N cwa) := ext_cell hb q6_9
  have q7_10 : w7.cell? ⟨w4.heap.size, 3, none⟩ = some (.slice Awk NK cwk) := ext_cell hb q6_10
  have q7_11 : w7.cell? ⟨w4.heap.size, 4, none⟩ = some (.slice Awi NI cwi) := ext_cell hb q6_11
  have q7_12 : w7.cell? ⟨w4.heap.size, 5, none⟩ = some (.int .i64 BE) := ext_cell hb q6_12
  have q7_13 : w7.cell? ⟨w4.heap.size, 6, none⟩ = some (.int .i64 GU) := ext_cell hb q6_13
  have q7_14 : w7.cell? ⟨w5.heap.size, 0, none⟩ = some (.int .i64 u) := ext_cell hb q6_14
  have q7_15 : w7.cell? ⟨w5.heap.size, 1, none⟩ = some (.int .i64 lo) := ext_cell hb q6_15
  have q7_16 : w7.cell? ⟨w5.heap.size, 2, none⟩ = some (.slice Axa n cxa) := ext_cell hb q6_16
  have q7_17 : w7.cell? ⟨w5.heap.size, 3, none⟩ = some (.slice Axk k cxk) := ext_cell hb q6_17
  have q7_18 : w7.cell? ⟨w5.heap.size, 4, none⟩ = some (.slice Axi m cxi) := ext_cell hb q6_18
  have q7_19 : w7.cell? ⟨w5.heap.size, 5, none⟩ = some (.int .i64 be) := ext_cell hb q6_19
  have q7_20 : w7.cell? ⟨w5.heap.size, 6, none⟩ = some (.int .i64 gu) := ext_cell hb q6_20
  have b7 := Lib.hid (ext_trans b6.out hb)
  have t7 : w.heap.size ≤ w7.heap.size := b7.out.size
  have o7_wa := Lib.hid (own_ext o6_wa.out hb)
  have o7_wk := Lib.hid (own_ext o6_wk.out hb)
  have o7_wi := Lib.hid (own_ext o6_wi.out hb)
  have o7_xa := Lib.hid (own_ext o6_xa.out hb)
  have o7_xk := Lib.hid (own_ext o6_xk.out hb)
  have o7_xi := Lib.hid (own_ext o6_xi.out hb)
  have o7_y := Lib.hid (own_ext oc_y.out hb)
  clear q6_0 q6_1 q6_2 q6_3 q6_4 q6_5 q6_6 q6_7 q6_8 q6_9 q6_10 q6_11 q6_12 q6_13 q6_14 q6_15 q6_16 q6_17 q6_18 q6_19 q6_20
  have oc_ga := Lib.hid (own_base (base' := w6.heap.size + 0) ho_ga (by simp))
  clear ho_ga
  have oc_gk := Lib.hid (own_base (base' := w6.heap.size + 0) ho_gk (by simp))
  clear ho_gk
  have oc_gi := Lib.hid (own_base (base' := w6.heap.size + 0) ho_gi (by simp))
  clear ho_gi
  clear hb
  have Hhne_g := Lib.hid hne_g
  clear hne_g
  go_wp2_with fail
  refine (eqMind_same U LO Aga Awa N cga cwa L Agk Awk NK cgk cwk CL Agi Awi NI cgi cwi IM BE GU _ hN hNK hNI (Reads.of_own (oc_ga.out.alloc _)) (Reads.of_own (o7_wa.out.alloc _)) (Reads.of_own (oc_gk.out.alloc _)) (Reads.of_own (o7_wk.out.alloc _)) (Reads.of_own (oc_gi.out.alloc _)) (Reads.of_own (o7_wi.out.alloc _))).mono ?_
  rintro e w8 ⟨rfl, hb⟩
  have s8 : w7.heap.size + 1 ≤ w8.heap.size := (by have := hb.size; (try simp at this); omega)
  have z8_0 : w.heap.size < w8.heap.size := (by omega)
  have z8_1 : w4.heap.size < w8.heap.size := (by omega)
  have z8_2 : w5.heap.size < w8.heap.size := (by omega)
  have z8_3 : w7.heap.size < w8.heap.size := (by omega)
  have q8_0 : w8.cell? ⟨w.heap.size, 0, none⟩ = some (.int .i64 u) := ext_cell hb (cell_old q7_0 _)
  have q8_1 : w8.cell? ⟨w.heap.size, 1, none⟩ = some (.int .i64 lo) := ext_cell hb (cell_old q7_1 _)
  have q8_2 : w8.cell? ⟨w.heap.size, 2, none⟩ = some (.slice A n c) := ext_cell hb (cell_old q7_2 _)
  have q8_3 : w8.cell? ⟨w.heap.size, 3, none⟩ = some (.slice K k kc) := ext_cell hb (cell_old q7_3 _)
  have q8_4 : w8.cell? ⟨w.heap.size, 4, none⟩ = some (.slice I m ic) := ext_cell hb (cell_old q7_4 _)
  have q8_5 : w8.cell? ⟨w.heap.size, 5, none⟩ = some (.int .i64 be) := ext_cell hb (cell_old q7_5 _)
  have q8_6 : w8.cell? ⟨w.heap.size, 6, none⟩ = some (.int .i64 gu) := ext_cell hb (cell_old q7_6 _)
  have q8_7 : w8.cell? ⟨w4.heap.size, 0, none⟩ = some (.int .i64 U) := ext_cell hb (cell_old q7_7 _)
  have q8_8 : w8.cell? ⟨w4.heap.size, 1, none⟩ = some (.int .i64 LO) := ext_cell hb (cell_old q7_8 _)
  have q8_9 : w8.cell? ⟨w4.heap.size, 2, none⟩ = some (.slice Awa N cwa) := ext_cell hb (cell_old q7_9 _)
  have q8_10 : w8.cell? ⟨w4.heap.size, 3, none⟩ = some (.slice Awk NK cwk) := ext_cell hb (cell_old q7_10 _)
  have q8_11 : w8.cell? ⟨w4.heap.size, 4, none⟩ = some (.slice Awi NI cwi) := ext_cell hb (cell_old q7_11 _)
  have q8_12 : w8.cell? ⟨w4.heap.size, 5, none⟩ = some (.int .i64 BE) := ext_cell hb (cell_old q7_12 _)
  have q8_13 : w8.cell? ⟨w4.heap.size, 6, none⟩ = some (.int .i64 GU) := ext_cell hb (cell_old q7_13 _)
  have q8_14 : w8.cell? ⟨w5.heap.size, 0, none⟩ = some (.int .i64 u) := ext_cell hb (cell_old q7_14 _)
  have q8_15 : w8.cell? ⟨w5.heap.size, 1, none⟩ = some (.int .i64 lo) := ext_cell hb (cell_old q7_15 _)
  have q8_16 : w8.cell? ⟨w5.heap.size, 2, none⟩ = some (.slice Axa n cxa) := ext_cell hb (cell_old q7_16 _)
  have q8_17 : w8.cell? ⟨w5.heap.size, 3, none⟩ = some (.slice Axk k cxk) := ext_cell hb (cell_old q7_17 _)
  have q8_18 : w8.cell? ⟨w5.heap.size, 4, none⟩ = some (.slice Axi m cxi) := ext_cell hb (cell_old q7_18 _)
  have q8_19 : w8.cell? ⟨w5.heap.size, 5, none⟩ = some (.int .i64 be) := ext_cell hb (cell_old q7_19 _)
  have q8_20 : w8.cell? ⟨w5.heap.size, 6, none⟩ = some (.int .i64 gu) := ext_cell hb (cell_old q7_20 _)
  have q8_21 : w8.cell? ⟨w7.heap.size, 0, none⟩ = some (.int .i64 U) := ext_cell hb (by simp [go_sem])
  have q8_22 : w8.cell? ⟨w7.heap.size, 1, none⟩ = some (.int .i64 LO) := ext_cell hb (by simp [go_sem])
  have q8_23 : w8.cell? ⟨w7.heap.size, 2, none⟩ = some (.slice Aga N cga) := ext_cell hb (by simp [go_sem])
  have q8_24 : w8.cell? ⟨w7.heap.size, 3, none⟩ = some (.slice Agk NK cgk) := ext_cell hb (by simp [go_sem])
  have q8_25 : w8.cell? ⟨w7.heap.size, 4, none⟩ = some (.slice Agi NI cgi) := ext_cell hb (by simp [go_sem])
  have q8_26 : w8.cell? ⟨w7.heap.size, 5, none⟩ = some (.int .i64 BE) := ext_cell hb (by simp [go_sem])
  have q8_27 : w8.cell? ⟨w7.heap.size, 6, none⟩ = some (.int .i64 GU) := ext_cell hb (by simp [go_sem])
  have b8 := Lib.hid (ext_trans (ext_alloc b7.out _) hb)
  have t8 : w.heap.size ≤ w8.heap.size := b8.out.size
  have o8_wa := Lib.hid (own_ext (o7_wa.out.alloc _) hb)
  have o8_wk := Lib.hid (own_ext (o7_wk.out.alloc _) hb)
  have o8_wi := Lib.hid (own_ext (o7_wi.out.alloc _) hb)
  have o8_xa := Lib.hid (own_ext (o7_xa.out.alloc _) hb)
  have o8_xk := Lib.hid (own_ext (o7_xk.out.alloc _) hb)
  have o8_xi := Lib.hid (own_ext (o7_xi.out.alloc _) hb)
  have o8_y := Lib.hid (own_ext (o7_y.out.alloc _) hb)
  have o8_ga := Lib.hid (own_ext (oc_ga.out.alloc _) hb)
  have o8_gk := Lib.hid (own_ext (oc_gk.out.alloc _) hb)
  have o8_gi := Lib.hid (own_ext (oc_gi.out.alloc _) hb)
  clear q7_0 q7_1 q7_2 q7_3 q7_4 q7_5 q7_6 q7_7 q7_8 q7_9 q7_10 q7_11 q7_12 q7_13 q7_14 q7_15 q7_16 q7_17 q7_18 q7_19 q7_20
  clear hb
  go_upto_region 14 with fail
  go_cut [68] (fun s68 wx => s68 = .bool false ∧ Below w8.heap.size w8 wx)
  case first =>
    go_region_held3 (fun w' => w'.cell? ⟨w.heap.size, 0, none⟩ = some (.int .i64 u) ∧ w'.cell? ⟨w.heap.size, 1, none⟩ = some (.int .i64 lo) ∧ w'.cell? ⟨w.heap.size, 2, none⟩ = some (.slice A n c) ∧ w'.cell? ⟨w.heap.size, 3, none⟩ = some (.slice K k kc) ∧ w'.cell? ⟨w.heap.size, 4, none⟩ = some (.slice I m ic) ∧ w'.cell? ⟨w.heap.size, 5, none⟩ = some (.int .i64 be) ∧ w'.cell? ⟨w.heap.size, 6, none⟩ = some (.int .i64 gu) ∧ w'.cell? ⟨w4.heap.size, 0, none⟩ = some (.int .i64 U) ∧ w'.cell? ⟨w4.heap.size, 1, none⟩ = some (.int .i64 LO) ∧ w'.cell? ⟨w4.heap.size, 2, none⟩ = some (.slice Awa N cwa) ∧ w'.cell? ⟨w4.heap.size, 3, none⟩ = some (.slice Awk NK cwk) ∧ w'.cell? ⟨w4.heap.size, 4, none⟩ = some (.slice Awi NI cwi) ∧ w'.cell? ⟨w4.heap.size, 5, none⟩ = some (.int .i64 BE) ∧ w'.cell? ⟨w4.heap.size, 6, none⟩ = some (.int .i64 GU) ∧ w'.cell? ⟨w5.heap.size, 0, none⟩ = some (.int .i64 u) ∧ w'.cell? ⟨w5.heap.size, 1, none⟩ = some (.int .i64 lo) ∧ w'.cell? ⟨w5.heap.size, 2, none⟩ = some (.slice Axa n cxa) ∧ w'.cell? ⟨w5.heap.size, 3, none⟩ = some (.slice Axk k cxk) ∧ w'.cell? ⟨w5.heap.size, 4, none⟩ = some (.slice Axi m cxi) ∧ w'.cell? ⟨w5.heap.size, 5, none⟩ = some (.int .i64 be) ∧ w'.cell? ⟨w5.heap.size, 6, none⟩ = some (.int .i64 gu) ∧ w'.cell? ⟨w7.heap.size, 0, none⟩ = some (.int .i64 U) ∧ w'.cell? ⟨w7.heap.size, 1, none⟩ = some (.int .i64 LO) ∧ w'.cell? ⟨w7.heap.size, 2, none⟩ = some (.slice Aga N cga) ∧ w'.cell? ⟨w7.heap.size, 3, none⟩ = some (.slice Agk NK cgk) ∧ w'.cell? ⟨w7.heap.size, 4, none⟩ = some (.slice Agi NI cgi) ∧ w'.cell? ⟨w7.heap.size, 5, none⟩ = some (.int .i64 BE) ∧ w'.cell? ⟨w7.heap.size, 6, none⟩ = some (.int .i64 GU)) (first | (go_split_ands; ((repeat' refine And.intro ?_ ?_) <;> with_reducible (repeat (first | assumption | refine cell_drew ?_ | refine cell_old ?_ _))))) (first | (go_at_call 28; refine (toMind_any u lo A n c l K k kc cl I m ic im be gu _ hn hk hm ((H.out.ext (ext_drew b8.out) (Nat.le_refl _)).more (by first | omega | (simp; omega) | (simp <;> omega))) ((HC.out.ext (ext_drew b8.out) (Nat.le_refl _)).more (by first | omega | (simp; omega) | (simp <;> omega))) ((HI.out.ext (ext_drew b8.out) (Nat.le_refl _)).more (by first | omega | (simp; omega) | (simp <;> omega)))).mono ?_; rintro e w' ⟨Aya, cya, Ayk, cyk, Ayi, cyi, rfl, _, hoya, hoyk, hoyi, hb⟩; have hoya := Lib.hid hoya; have hoyk := Lib.hid hoyk; have hoyi := Lib.hid hoyi; have hbY := Lib.hid hb; obtain ⟨hc, hf⟩ := bcell hb; have k0 : w'.cell? ⟨w.heap.size, 0, none⟩ = some (.int .i64 u) := ext_cell hb (by with_reducible (repeat (first | assumption | refine cell_drew ?_))); have k1 : w'.cell? ⟨w.heap.size, 1, none⟩ = some (.int .i64 lo) := ext_cell hb (by with_reducible (repeat (first | assumption | refine cell_drew ?_))); have k2 : w'.cell? ⟨w.heap.size, 2, none⟩ = some (.slice A n c) := ext_cell hb (by with_reducible (repeat (first | assumption | refine cell_drew ?_))); have k3 : w'.cell? ⟨w.heap.size, 3, none⟩ = some (.slice K k kc) := ext_cell hb (by with_reducible (repeat (first | assumption | refine cell_drew ?_))); have k4 : w'.cell? ⟨w.heap.size, 4, none⟩ = some (.slice I m ic) := ext_cell hb (by with_reducible (repeat (first | assumption | refine cell_drew ?_))); have k5 : w'.cell? ⟨w.heap.size, 5, none⟩ = some (.int .i64 be) := ext_cell hb (by with_reducible (repeat (first | assumption | refine cell_drew ?_))); have k6 : w'.cell? ⟨w.heap.size, 6, none⟩ = some (.int .i64 gu) := ext_cell hb (by with_reducible (repeat (first | assumption | refine cell_drew ?_))); have k7 : w'.cell? ⟨w4.heap.size, 0, none⟩ = some (.int .i64 U) := ext_cell hb (by with_reducible (repeat (first | assumption | refine cell_drew ?_))); have k8 : w'.cell? ⟨w4.heap.size, 1, none⟩ = some (.int .i64 LO) := ext_cell hb (by with_reducible (repeat (first | assumption | refine cell_drew ?_))); have k9 : w'.cell? ⟨w4.heap.size, 2, none⟩ = some (.slice Awa N cwa) := ext_cell hb (by with_reducible (repeat (first | assumption | refine cell_drew ?_))); have k10 : w'.cell? ⟨w4.heap.size, 3, none⟩ = some (.slice Awk NK cwk) := ext_cell hb (by with_reducible (repeat (first | assumption | refine cell_drew ?_))); have k11 : w'.cell? ⟨w4.heap.size, 4, none⟩ = some (.slice Awi NI cwi) := ext_cell hb (by with_reducible (repeat (first | assumption | refine cell_drew ?_))); have k12 : w'.cell? ⟨w4.heap.size, 5, none⟩ = some (.int .i64 BE) := ext_cell hb (by with_reducible (repeat (first | assumption | refine cell_drew ?_))); have k13 : w'.cell? ⟨w4.heap.size, 6, none⟩ = some (.int .i64 GU) := ext_cell hb (by with_reducible (repeat (first | assumption | refine cell_drew ?_))); have k14 : w'.cell? ⟨w5.heap.size, 0, none⟩ = some (.int .i64 u) := ext_cell hb (by with_reducible (repeat (first | assumption | refine cell_drew ?_))); have k15 : w'.cell? ⟨w5.heap.size, 1, none⟩ = some (.int .i64 lo) := ext_cell hb (by with_reducible (repeat (first | assumption | refine cell_drew ?_))); have k16 : w'.cell? ⟨w5.heap.size, 2, none⟩ = some (.slice Axa n cxa) := ext_cell hb (by with_reducible (repeat (first | assumption | refine cell_drew ?_))); have k17 : w'.cell? ⟨w5.heap.size, 3, none⟩ = some (.slice Axk k cxk) := ext_cell hb (by with_reducible (repeat (first | assumption | refine cell_drew ?_))); have k18 : w'.cell? ⟨w5.heap.size, 4, none⟩ = some (.slice Axi m cxi) := ext_cell hb (by with_reducible (repeat (first | assumption | refine cell_drew ?_))); have k19 : w'.cell? ⟨w5.heap.size, 5, none⟩ = some (.int .i64 be) := ext_cell hb (by with_reducible (repeat (first | assumption | refine cell_drew ?_))); have k20 : w'.cell? ⟨w5.heap.size, 6, none⟩ = some (.int .i64 gu) := ext_cell hb (by with_reducible (repeat (first | assumption | refine cell_drew ?_))); have k21 : w'.cell? ⟨w7.heap.size, 0, none⟩ = some (.int .i64 U) := ext_cell hb (by with_reducible (repeat (first | assumption | refine cell_drew ?_))); have k22 : w'.cell? ⟨w7.heap.size, 1, none⟩ = some (.int .i64 LO) := ext_cell hb (by with_reducible (repeat (first | assumption | refine cell_drew ?_))); have k23 : w'.cell? ⟨w7.heap.size, 2, none⟩ = some (.slice Aga N cga) := ext_cell hb (by with_reducible (repeat (first | assumption | refine cell_drew ?_))); have k24 : w'.cell? ⟨w7.heap.size, 3, none⟩ = some (.slice Agk NK cgk) := ext_cell hb (by with_reducible (repeat (first | assumption | refine cell_drew ?_))); have k25 : w'.cell? ⟨w7.heap.size, 4, none⟩ = some (.slice Agi NI cgi) := ext_cell hb (by with_reducible (repeat (first | assumption | refine cell_drew ?_))); have k26 : w'.cell? ⟨w7.heap.size, 5, none⟩ = some (.int .i64 BE) := ext_cell hb (by with_reducible (repeat (first | assumption | refine cell_drew ?_))); have k27 : w'.cell? ⟨w7.heap.size, 6, none⟩ = some (.int .i64 GU) := ext_cell hb (by with_reducible (repeat (first | assumption | refine cell_drew ?_)))) | (go_at_call 31; refine (eqMind_same u lo Axa Aya n cxa cya l Axk Ayk k cxk cyk cl Axi Ayi m cxi cyi im be gu _ hn hk hm (Reads.of_own (own_ext (World.ownsRow.drew o8_xa.out) hbY.out)) (Reads.of_own hoya.out) (Reads.of_own (own_ext (World.ownsRow.drew o8_xk.out) hbY.out)) (Reads.of_own hoyk.out) (Reads.of_own (own_ext (World.ownsRow.drew o8_xi.out) hbY.out)) (Reads.of_own hoyi.out)).mono ?_; rintro e w' ⟨rfl, hb⟩; have hbZ := Lib.hid hb; obtain ⟨hc, hf⟩ := bcell hb; have k0 : w'.cell? ⟨w.heap.size, 0, none⟩ = some (.int .i64 u) := ext_cell hb (by with_reducible (repeat (first | assumption | refine cell_drew ?_))); have k1 : w'.cell? ⟨w.heap.size, 1, none⟩ = some (.int .i64 lo) := ext_cell hb (by with_reducible (repeat (first | assumption | refine cell_drew ?_))); have k2 : w'.cell? ⟨w.heap.size, 2, none⟩ = some (.slice A n c) := ext_cell hb (by with_reducible (repeat (first | assumption | refine cell_drew ?_))); have k3 : w'.cell? ⟨w.heap.size, 3, none⟩ = some (.slice K k kc) := ext_cell hb (by with_reducible (repeat (first | assumption | refine cell_drew ?_))); have k4 : w'.cell? ⟨w.heap.size, 4, none⟩ = some (.slice I m ic) := ext_cell hb (by with_reducible (repeat (first | assumption | refine cell_drew ?_))); have k5 : w'.cell? ⟨w.heap.size, 5, none⟩ = some (.int .i64 be) := ext_cell hb (by with_reducible (repeat (first | assumption | refine cell_drew ?_))); have k6 : w'.cell? ⟨w.heap.size, 6, none⟩ = some (.int .i64 gu) := ext_cell hb (by with_reducible (repeat (first | assumption | refine cell_drew ?_))); have k7 : w'.cell? ⟨w4.heap.size, 0, none⟩ = some (.int .i64 U) := ext_cell hb (by with_reducible (repeat (first | assumption | refine cell_drew ?_))); have k8 : w'.cell? ⟨w4.heap.size, 1, none⟩ = some (.int .i64 LO) := ext_cell hb (by with_reducible (repeat (first | assumption | refine cell_drew ?_))); have k9 : w'.cell? ⟨w4.heap.size, 2, none⟩ = some (.slice Awa N cwa) := ext_cell hb (by with_reducible (repeat (first | assumption | refine cell_drew ?_))); have k10 : w'.cell? ⟨w4.heap.size, 3, none⟩ = some (.slice Awk NK cwk) := ext_cell hb (by with_reducible (repeat (first | assumption | refine cell_drew ?_))); have k11 : w'.cell? ⟨w4.heap.size, 4, none⟩ = some (.slice Awi NI cwi) := ext_cell hb (by with_reducible (repeat (first | assumption | refine cell_drew ?_))); have k12 : w'.cell? ⟨w4.heap.size, 5, none⟩ = some (.int .i64 BE) := ext_cell hb (by with_reducible (repeat (first | assumption | refine cell_drew ?_))); have k13 : w'.cell? ⟨w4.heap.size, 6, none⟩ = some (.int .i64 GU) := ext_cell hb (by with_reducible (repeat (first | assumption | refine cell_drew ?_))); have k14 : w'.cell? ⟨w5.heap.size, 0, none⟩ = some (.int .i64 u) := ext_cell hb (by with_reducible (repeat (first | assumption | refine cell_drew ?_))); have k15 : w'.cell? ⟨w5.heap.size, 1, none⟩ = some (.int .i64 lo) := ext_cell hb (by with_reducible (repeat (first | assumption | refine cell_drew ?_))); have k16 : w'.cell? ⟨w5.heap.size, 2, none⟩ = some (.slice Axa n cxa) := ext_cell hb (by with_reducible (repeat (first | assumption | refine cell_drew ?_))); have k17 : w'.cell? ⟨w5.heap.size, 3, none⟩ = some (.slice Axk k cxk) := ext_cell hb (by with_reducible (repeat (first | assumption | refine cell_drew ?_))); have k18 : w'.cell? ⟨w5.heap.size, 4, none⟩ = some (.slice Axi m cxi) := ext_cell hb (by with_reducible (repeat (first | assumption | refine cell_drew ?_))); have k19 : w'.cell? ⟨w5.heap.size, 5, none⟩ = some (.int .i64 be) := ext_cell hb (by with_reducible (repeat (first | assumption | refine cell_drew ?_))); have k20 : w'.cell? ⟨w5.heap.size, 6, none⟩ = some (.int .i64 gu) := ext_cell hb (by with_reducible (repeat (first | assumption | refine cell_drew ?_))); have k21 : w'.cell? ⟨w7.heap.size, 0, none⟩ = some (.int .i64 U) := ext_cell hb (by with_reducible (repeat (first | assumption | refine cell_drew ?_))); have k22 : w'.cell? ⟨w7.heap.size, 1, none⟩ = some (.int .i64 LO) := ext_cell hb (by with_reducible (repeat (first | assumption | refine cell_drew ?_))); have k23 : w'.cell? ⟨w7.heap.size, 2, none⟩ = some (.slice Aga N cga) := ext_cell hb (by with_reducible (repeat (first | assumption | refine cell_drew ?_))); have k24 : w'.cell? ⟨w7.heap.size, 3, none⟩ = some (.slice Agk NK cgk) := ext_cell hb (by with_reducible (repeat (first | assumption | refine cell_drew ?_))); have k25 : w'.cell? ⟨w7.heap.size, 4, none⟩ = some (.slice Agi NI cgi) := ext_cell hb (by with_reducible (repeat (first | assumption | refine cell_drew ?_))); have k26 : w'.cell? ⟨w7.heap.size, 5, none⟩ = some (.int .i64 BE) := ext_cell hb (by with_reducible (repeat (first | assumption | refine cell_drew ?_))); have k27 : w'.cell? ⟨w7.heap.size, 6, none⟩ = some (.int .i64 GU) := ext_cell hb (by with_reducible (repeat (first | assumption | refine cell_drew ?_)))))
    all_goals (go_wp2_with fail; go_meet; exact ⟨rfl, ext_trans (ext_trans (ext_drew (ext_refl _)) hbY.out) hbZ.out⟩)
  case rest =>
    obtain ⟨rfl, hb⟩ := hcut
    obtain ⟨w9, hw9⟩ : ∃ x : World, x = wc := ⟨_, rfl⟩
    subst hw9
    have s9 : w8.heap.size ≤ w9.heap.size := (by have := hb.size; (try simp at this); omega)
    have z9_0 : w.heap.size < w9.heap.size := (by omega)
    have z9_1 : w4.heap.size < w9.heap.size := (by omega)
    have z9_2 : w5.heap.size < w9.heap.size := (by omega)
    have z9_3 : w7.heap.size < w9.heap.size := (by omega)
    have q9_0 : w9.cell? ⟨w.heap.size, 0, none⟩ = some (.int .i64 u) := ext_cell hb q8_0
    have q9_1 : w9.cell? ⟨w.heap.size, 1, none⟩ = some (.int .i64 lo) := ext_cell hb q8_1
    have q9_2 : w9.cell? ⟨w.heap.size, 2, none⟩ = some (.slice A n c) := ext_cell hb q8_2
    have q9_3 : w9.cell? ⟨w.heap.size, 3, none⟩ = some (.slice K k kc) := ext_cell hb q8_3
    have q9_4 : w9.cell? ⟨w.heap.size, 4, none⟩ = some (.slice I m ic) := ext_cell hb q8_4
    have q9_5 : w9.cell? ⟨w.heap.size, 5, none⟩ = some (.int .i64 be) := ext_cell hb q8_5
    have q9_6 : w9.cell? ⟨w.heap.size, 6, none⟩ = some (.int .i64 gu) := ext_cell hb q8_6
    have q9_7 : w9.cell? ⟨w4.heap.size, 0, none⟩ = some (.int .i64 U) := ext_cell hb q8_7
    have q9_8 : w9.cell? ⟨w4.heap.size, 1, none⟩ = some (.int .i64 LO) := ext_cell hb q8_8
    have q9_9 : w9.cell? ⟨w4.heap.size, 2, none⟩ = some (.slice Awa N cwa) := ext_cell hb q8_9
    have q9_10 : w9.cell? ⟨w4.heap.size, 3, none⟩ = some (.slice Awk NK cwk) := ext_cell hb q8_10
    have q9_11 : w9.cell? ⟨w4.heap.size, 4, none⟩ = some (.slice Awi NI cwi) := ext_cell hb q8_11
    have q9_12 : w9.cell? ⟨w4.heap.size, 5, none⟩ = some (.int .i64 BE) := ext_cell hb q8_12
    have q9_13 : w9.cell? ⟨w4.heap.size, 6, none⟩ = some (.int .i64 GU) := ext_cell hb q8_13
    have q9_14 : w9.cell? ⟨w5.heap.size, 0, none⟩ = some (.int .i64 u) := ext_cell hb q8_14
    have q9_15 : w9.cell? ⟨w5.heap.size, 1, none⟩ = some (.int .i64 lo) := ext_cell hb q8_15
    have q9_16 : w9.cell? ⟨w5.heap.size, 2, none⟩ = some (.slice Axa n cxa) := ext_cell hb q8_16
    have q9_17 : w9.cell? ⟨w5.heap.size, 3, none⟩ = some (.slice Axk k cxk) := ext_cell hb q8_17
    have q9_18 : w9.cell? ⟨w5.heap.size, 4, none⟩ = some (.slice Axi m cxi) := ext_cell hb q8_18
    have q9_19 : w9.cell? ⟨w5.heap.size, 5, none⟩ = some (.int .i64 be) := ext_cell hb q8_19
    have q9_20 : w9.cell? ⟨w5.heap.size, 6, none⟩ = some (.int .i64 gu) := ext_cell hb q8_20
    have q9_21 : w9.cell? ⟨w7.heap.size, 0, none⟩ = some (.int .i64 U) := ext_cell hb q8_21
    have q9_22 : w9.cell? ⟨w7.heap.size, 1, none⟩ = some (.int .i64 LO) := ext_cell hb q8_22
    have q9_23 : w9.cell? ⟨w7.heap.size, 2, none⟩ = some (.slice Aga N cga) := ext_cell hb q8_23
    have q9_24 : w9.cell? ⟨w7.heap.size, 3, none⟩ = some (.slice Agk NK cgk) := ext_cell hb q8_24
    have q9_25 : w9.cell? ⟨w7.heap.size, 4, none⟩ = some (.slice Agi NI cgi) := ext_cell hb q8_25
    have q9_26 : w9.cell? ⟨w7.heap.size, 5, none⟩ = some (.int .i64 BE) := ext_cell hb q8_26
    have q9_27 : w9.cell? ⟨w7.heap.size, 6, none⟩ = some (.int .i64 GU) := ext_cell hb q8_27
    have b9 := Lib.hid (ext_trans b8.out hb)
    have t9 : w.heap.size ≤ w9.heap.size := b9.out.size
    have o9_wa := Lib.hid (own_ext o8_wa.out hb)
    have o9_wk := Lib.hid (own_ext o8_wk.out hb)
    have o9_wi := Lib.hid (own_ext o8_wi.out hb)
    have o9_xa := Lib.hid (own_ext o8_xa.out hb)
    have o9_xk := Lib.hid (own_ext o8_xk.out hb)
    have o9_xi := Lib.hid (own_ext o8_xi.out hb)
    have o9_y := Lib.hid (own_ext o8_y.out hb)
    have o9_ga := Lib.hid (own_ext o8_ga.out hb)
    have o9_gk := Lib.hid (own_ext o8_gk.out hb)
    have o9_gi := Lib.hid (own_ext o8_gi.out hb)
    clear q8_0 q8_1 q8_2 q8_3 q8_4 q8_5 q8_6 q8_7 q8_8 q8_9 q8_10 q8_11 q8_12 q8_13 q8_14 q8_15 q8_16 q8_17 q8_18 q8_19 q8_20 q8_21 q8_22 q8_23 q8_24 q8_25 q8_26 q8_27
    clear hb
    go_wp2_with fail
    refine (toMindStepS_any Bs n2 cb ss _ hn2 ((HSS.out.ext b9.out (Nat.le_refl _)).more (by first | omega | (simp <;> omega)))).mono ?_
    rintro e w10 ⟨Az, cz, rfl, ho_z, hb⟩
    have s10 : w9.heap.size ≤ w10.heap.size := (by have := hb.size; (try simp at this); omega)
    have z10_0 : w.heap.size < w10.heap.size := (by omega)
    have z10_1 : w4.heap.size < w10.heap.size := (by omega)
    have z10_2 : w5.heap.size < w10.heap.size := (by omega)
    have z10_3 : w7.heap.size < w10.heap.size := (by omega)
    have q10_0 : w10.cell? ⟨w.heap.size, 0, none⟩ = some (.int .i64 u) := ext_cell hb q9_0
    have q10_1 : w10.cell? ⟨w.heap.size, 1, none⟩ = some (.int .i64 lo) := ext_cell hb q9_1
    have q10_2 : w10.cell? ⟨w.heap.size, 2, none⟩ = some (.slice A n c) := ext_cell hb q9_2
    have q10_3 : w10.cell? ⟨w.heap.size, 3, none⟩ = some (.slice K k kc) := ext_cell hb q9_3
    have q10_4 : w10.cell? ⟨w.heap.size, 4, none⟩ = some (.slice I m ic) := ext_cell hb q9_4
    have q10_5 : w10.cell? ⟨w.heap.size, 5, none⟩ = some (.int .i64 be) := ext_cell hb q9_5
    have q10_6 : w10.cell? ⟨w.heap.size, 6, none⟩ = some (.int .i64 gu) := ext_cell hb q9_6
    have q10_7 : w10.cell? ⟨w4.heap.size, 0, none⟩ = some (.int .i64 U) := ext_cell hb q9_7
    have q10_8 : w10.cell? ⟨w4.heap.size, 1, none⟩ = some (.int .i64 LO) := ext_cell hb q9_8
    have q10_9 : w10.cell? ⟨w4.heap.size, 2, none⟩ = some (.slice Awa N cwa) := ext_cell hb q9_9
    have q10_10 : w10.cell? ⟨w4.heap.size, 3, none⟩ = some (.slice Awk NK cwk) := ext_cell hb q9_10
    have q10_11 : w10.cell? ⟨w4.heap.size, 4, none⟩ = some (.slice Awi NI cwi) := ext_cell hb q9_11
    have q10_12 : w10.cell? ⟨w4.heap.size, 5, none⟩ = some (.int .i64 BE) := ext_cell hb q9_12
    have q10_13 : w10.cell? ⟨w4.heap.size, 6, none⟩ = some (.int .i64 GU) := ext_cell hb q9_13
    have q10_14 : w10.cell? ⟨w5.heap.size, 0, none⟩ = some (.int .i64 u) := ext_cell hb q9_14
    have q10_15 : w10.cell? ⟨w5.heap.size, 1, none⟩ = some (.int .i64 lo) := ext_cell hb q9_15
    have q10_16 : w10.cell? ⟨w5.heap.size, 2, none⟩ = some (.slice Axa n cxa) := ext_cell hb q9_16
    have q10_17 : w10.cell? ⟨w5.heap.size, 3, none⟩ = some (.slice Axk k cxk) := ext_cell hb q9_17
    have q10_18 : w10.cell? ⟨w5.heap.size, 4, none⟩ = some (.slice Axi m cxi) := ext_cell hb q9_18
    have q10_19 : w10.cell? ⟨w5.heap.size, 5, none⟩ = some (.int .i64 be) := ext_cell hb q9_19
    have q10_20 : w10.cell? ⟨w5.heap.size, 6, none⟩ = some (.int .i64 gu) := ext_cell hb q9_20
    have q10_21 : w10.cell? ⟨w7.heap.size, 0, none⟩ = some (.int .i64 U) := ext_cell hb q9_21
    have q10_22 : w10.cell? ⟨w7.heap.size, 1, none⟩ = some (.int .i64 LO) := ext_cell hb q9_22
    have q10_23 : w10.cell? ⟨w7.heap.size, 2, none⟩ = some (.slice Aga N cga) := ext_cell hb q9_23
    have q10_24 : w10.cell? ⟨w7.heap.size, 3, none⟩ = some (.slice Agk NK cgk) := ext_cell hb q9_24
    have q10_25 : w10.cell? ⟨w7.heap.size, 4, none⟩ = some (.slice Agi NI cgi) := ext_cell hb q9_25
    have q10_26 : w10.cell? ⟨w7.heap.size, 5, none⟩ = some (.int .i64 BE) := ext_cell hb q9_26
    have q10_27 : w10.cell? ⟨w7.heap.size, 6, none⟩ = some (.int .i64 GU) := ext_cell hb q9_27
    have b10 := Lib.hid (ext_trans b9.out hb)
    have t10 : w.heap.size ≤ w10.heap.size := b10.out.size
    have o10_wa := Lib.hid (own_ext o9_wa.out hb)
    have o10_wk := Lib.hid (own_ext o9_wk.out hb)
    have o10_wi := Lib.hid (own_ext o9_wi.out hb)
    have o10_xa := Lib.hid (own_ext o9_xa.out hb)
    have o10_xk := Lib.hid (own_ext o9_xk.out hb)
    have o10_xi := Lib.hid (own_ext o9_xi.out hb)
    have o10_y := Lib.hid (own_ext o9_y.out hb)
    have o10_ga := Lib.hid (own_ext o9_ga.out hb)
    have o10_gk := Lib.hid (own_ext o9_gk.out hb)
    have o10_gi := Lib.hid (own_ext o9_gi.out hb)
    clear q9_0 q9_1 q9_2 q9_3 q9_4 q9_5 q9_6 q9_7 q9_8 q9_9 q9_10 q9_11 q9_12 q9_13 q9_14 q9_15 q9_16 q9_17 q9_18 q9_19 q9_20 q9_21 q9_22 q9_23 q9_24 q9_25 q9_26 q9_27
    have oc_z := Lib.hid (own_base (base' := w9.heap.size + 0) ho_z (by simp))
    clear ho_z
    clear hb
    go_wp2_with fail
    refine (eqMindStepS_any Ay Az n2 n2 cy cz ss ss _ hn2 hn2 (Reads.of_own o10_y.out) (Reads.of_own oc_z.out)).mono ?_
    rintro e w11 ⟨rfl, hb⟩
    have s11 : w10.heap.size ≤ w11.heap.size := (by have := hb.size; (try simp at this); omega)
    have z11_0 : w.heap.size < w11.heap.size := (by omega)
    have z11_1 : w4.heap.size < w11.heap.size := (by omega)
    have z11_2 : w5.heap.size < w11.heap.size := (by omega)
    have z11_3 : w7.heap.size < w11.heap.size := (by omega)
    have q11_0 : w11.cell? ⟨w.heap.size, 0, none⟩ = some (.int .i64 u) := ext_cell hb q10_0
    have q11_1 : w11.cell? ⟨w.heap.size, 1, none⟩ = some (.int .i64 lo) := ext_cell hb q10_1
    have q11_2 : w11.cell? ⟨w.heap.size, 2, none⟩ = some (.slice A n c) := ext_cell hb q10_2
    have q11_3 : w11.cell? ⟨w.heap.size, 3, none⟩ = some (.slice K k kc) := ext_cell hb q10_3
    have q11_4 : w11.cell? ⟨w.heap.size, 4, none⟩ = some (.slice I m ic) := ext_cell hb q10_4
    have q11_5 : w11.cell? ⟨w.heap.size, 5, none⟩ = some (.int .i64 be) := ext_cell hb q10_5
    have q11_6 : w11.cell? ⟨w.heap.size, 6, none⟩ = some (.int .i64 gu) := ext_cell hb q10_6
    have q11_7 : w11.cell? ⟨w4.heap.size, 0, none⟩ = some (.int .i64 U) := ext_cell hb q10_7
    have q11_8 : w11.cell? ⟨w4.heap.size, 1, none⟩ = some (.int .i64 LO) := ext_cell hb q10_8
    have q11_9 : w11.cell? ⟨w4.heap.size, 2, none⟩ = some (.slice Awa N cwa) := ext_cell hb q10_9
    have q11_10 : w11.cell? ⟨w4.heap.size, 3, none⟩ = some (.slice Awk NK cwk) := ext_cell hb q10_10
    have q11_11 : w11.cell? ⟨w4.heap.size, 4, none⟩ = some (.slice Awi NI cwi) := ext_cell hb q10_11
    have q11_12 : w11.cell? ⟨w4.heap.size, 5, none⟩ = some (.int .i64 BE) := ext_cell hb q10_12
    have q11_13 : w11.cell? ⟨w4.heap.size, 6, none⟩ = some (.int .i64 GU) := ext_cell hb q10_13
    have q11_14 : w11.cell? ⟨w5.heap.size, 0, none⟩ = some (.int .i64 u) := ext_cell hb q10_14
    have q11_15 : w11.cell? ⟨w5.heap.size, 1, none⟩ = some (.int .i64 lo) := ext_cell hb q10_15
    have q11_16 : w11.cell? ⟨w5.heap.size, 2, none⟩ = some (.slice Axa n cxa) := ext_cell hb q10_16
    have q11_17 : w11.cell? ⟨w5.heap.size, 3, none⟩ = some (.slice Axk k cxk) := ext_cell hb q10_17
    have q11_18 : w11.cell? ⟨w5.heap.size, 4, none⟩ = some (.slice Axi m cxi) := ext_cell hb q10_18
    have q11_19 : w11.cell? ⟨w5.heap.size, 5, none⟩ = some (.int .i64 be) := ext_cell hb q10_19
    have q11_20 : w11.cell? ⟨w5.heap.size, 6, none⟩ = some (.int .i64 gu) := ext_cell hb q10_20
    have q11_21 : w11.cell? ⟨w7.heap.size, 0, none⟩ = some (.int .i64 U) := ext_cell hb q10_21
    have q11_22 : w11.cell? ⟨w7.heap.size, 1, none⟩ = some (.int .i64 LO) := ext_cell hb q10_22
    have q11_23 : w11.cell? ⟨w7.heap.size, 2, none⟩ = some (.slice Aga N cga) := ext_cell hb q10_23
    have q11_24 : w11.cell? ⟨w7.heap.size, 3, none⟩ = some (.slice Agk NK cgk) := ext_cell hb q10_24
    have q11_25 : w11.cell? ⟨w7.heap.size, 4, none⟩ = some (.slice Agi NI cgi) := ext_cell hb q10_25
    have q11_26 : w11.cell? ⟨w7.heap.size, 5, none⟩ = some (.int .i64 BE) := ext_cell hb q10_26
    have q11_27 : w11.cell? ⟨w7.heap.size, 6, none⟩ = some (.int .i64 GU) := ext_cell hb q10_27
    have b11 := Lib.hid (ext_trans b10.out hb)
    have t11 : w.heap.size ≤ w11.heap.size := b11.out.size
    have o11_wa := Lib.hid (own_ext o10_wa.out hb)
    have o11_wk := Lib.hid (own_ext o10_wk.out hb)
    have o11_wi := Lib.hid (own_ext o10_wi.out hb)
    have o11_xa := Lib.hid (own_ext o10_xa.out hb)
    have o11_xk := Lib.hid (own_ext o10_xk.out hb)
    have o11_xi := Lib.hid (own_ext o10_xi.out hb)
    have o11_y := Lib.hid (own_ext o10_y.out hb)
    have o11_ga := Lib.hid (own_ext o10_ga.out hb)
    have o11_gk := Lib.hid (own_ext o10_gk.out hb)
    have o11_gi := Lib.hid (own_ext o10_gi.out hb)
    have o11_z := Lib.hid (own_ext oc_z.out hb)
    clear q10_0 q10_1 q10_2 q10_3 q10_4 q10_5 q10_6 q10_7 q10_8 q10_9 q10_10 q10_11 q10_12 q10_13 q10_14 q10_15 q10_16 q10_17 q10_18 q10_19 q10_20 q10_21 q10_22 q10_23 q10_24 q10_25 q10_26 q10_27
    clear hb
    go_wp2_with fail
    refine (markMind_any u lo Axa n cxa Axk k cxk Axi m cxi be gu _ _ _ _ _ _ _ hn hk hm o11_xa.out o11_xk.out o11_xi.out Hhne_x.out).mono ?_
    rintro e w14 ⟨rfl, w12, w13, hg1, hg2, hg3, hk1, hi2, hoa, hok, hoi⟩
    have hg := hg1
    have s12 : w11.heap.size ≤ w12.heap.size := (by have := hg.size; (try simp at this); omega)
    have z12_0 : w.heap.size < w12.heap.size := (by omega)
    have z12_1 : w4.heap.size < w12.heap.size := (by omega)
    have z12_2 : w5.heap.size < w12.heap.size := (by omega)
    have z12_3 : w7.heap.size < w12.heap.size := (by omega)
    have q12_0 : w12.cell? ⟨w.heap.size, 0, none⟩ = some (.int .i64 u) := cell_far_grown hg (own_far_lt (b := w.heap.size) oc_xa.out (by omega)) q11_0
    have q12_1 : w12.cell? ⟨w.heap.size, 1, none⟩ = some (.int .i64 lo) := cell_far_grown hg (own_far_lt (b := w.heap.size) oc_xa.out (by omega)) q11_1
    have q12_2 : w12.cell? ⟨w.heap.size, 2, none⟩ = some (.slice A n c) := cell_far_grown hg (own_far_lt (b := w.heap.size) oc_xa.out (by omega)) q11_2
    have q12_3 : w12.cell? ⟨w.heap.size, 3, none⟩ = some (.slice K k kc) := cell_far_grown hg (own_far_lt (b := w.heap.size) oc_xa.out (by omega)) q11_3
    have q12_4 : w12.cell? ⟨w.heap.size, 4, none⟩ = some (.slice I m ic) := cell_far_grown hg (own_far_lt (b := w.heap.size) oc_xa.out (by omega)) q11_4
    have q12_5 : w12.cell? ⟨w.heap.size, 5, none⟩ = some (.int .i64 be) := cell_far_grown hg (own_far_lt (b := w.heap.size) oc_xa.out (by omega)) q11_5
    have q12_6 : w12.cell? ⟨w.heap.size, 6, none⟩ = some (.int .i64 gu) := cell_far_grown hg (own_far_lt (b := w.heap.size) oc_xa.out (by omega)) q11_6
    have q12_7 : w12.cell? ⟨w4.heap.size, 0, none⟩ = some (.int .i64 U) := cell_far_grown hg (own_far_lt (b := w4.heap.size) oc_xa.out (by omega)) q11_7
    have q12_8 : w12.cell? ⟨w4.heap.size, 1, none⟩ = some (.int .i64 LO) := cell_far_grown hg (own_far_lt (b := w4.heap.size) oc_xa.out (by omega)) q11_8
    have q12_9 : w12.cell? ⟨w4.heap.size, 2, none⟩ = some (.slice Awa N cwa) := cell_far_grown hg (own_far_lt (b := w4.heap.size) oc_xa.out (by omega)) q11_9
    have q12_10 : w12.cell? ⟨w4.heap.size, 3, none⟩ = some (.slice Awk NK cwk) := cell_far_grown hg (own_far_lt (b := w4.heap.size) oc_xa.out (by omega)) q11_10
    have q12_11 : w12.cell? ⟨w4.heap.size, 4, none⟩ = some (.slice Awi NI cwi) := cell_far_grown hg (own_far_lt (b := w4.heap.size) oc_xa.out (by omega)) q11_11
    have q12_12 : w12.cell? ⟨w4.heap.size, 5, none⟩ = some (.int .i64 BE) := cell_far_grown hg (own_far_lt (b := w4.heap.size) oc_xa.out (by omega)) q11_12
    have q12_13 : w12.cell? ⟨w4.heap.size, 6, none⟩ = some (.int .i64 GU) := cell_far_grown hg (own_far_lt (b := w4.heap.size) oc_xa.out (by omega)) q11_13
    have q12_14 : w12.cell? ⟨w5.heap.size, 0, none⟩ = some (.int .i64 u) := cell_far_grown hg (own_far_ge (b := w5.heap.size) oc_xa.out (by omega)) q11_14
    have q12_15 : w12.cell? ⟨w5.heap.size, 1, none⟩ = some (.int .i64 lo) := cell_far_grown hg (own_far_ge (b := w5.heap.size) oc_xa.out (by omega)) q11_15
    have q12_16 : w12.cell? ⟨w5.heap.size, 2, none⟩ = some (.slice Axa n cxa) := cell_far_grown hg (own_far_ge (b := w5.heap.size) oc_xa.out (by omega)) q11_16
    have q12_17 : w12.cell? ⟨w5.heap.size, 3, none⟩ = some (.slice Axk k cxk) := cell_far_grown hg (own_far_ge (b := w5.heap.size) oc_xa.out (by omega)) q11_17
    have q12_18 : w12.cell? ⟨w5.heap.size, 4, none⟩ = some (.slice Axi m cxi) := cell_far_grown hg (own_far_ge (b := w5.heap.size) oc_xa.out (by omega)) q11_18
    have q12_19 : w12.cell? ⟨w5.heap.size, 5, none⟩ = some (.int .i64 be) := cell_far_grown hg (own_far_ge (b := w5.heap.size) oc_xa.out (by omega)) q11_19
    have q12_20 : w12.cell? ⟨w5.heap.size, 6, none⟩ = some (.int .i64 gu) := cell_far_grown hg (own_far_ge (b := w5.heap.size) oc_xa.out (by omega)) q11_20
    have q12_21 : w12.cell? ⟨w7.heap.size, 0, none⟩ = some (.int .i64 U) := cell_far_grown hg (own_far_ge (b := w7.heap.size) oc_xa.out (by omega)) q11_21
    have q12_22 : w12.cell? ⟨w7.heap.size, 1, none⟩ = some (.int .i64 LO) := cell_far_grown hg (own_far_ge (b := w7.heap.size) oc_xa.out (by omega)) q11_22
    have q12_23 : w12.cell? ⟨w7.heap.size, 2, none⟩ = some (.slice Aga N cga) := cell_far_grown hg (own_far_ge (b := w7.heap.size) oc_xa.out (by omega)) q11_23
    have q12_24 : w12.cell? ⟨w7.heap.size, 3, none⟩ = some (.slice Agk NK cgk) := cell_far_grown hg (own_far_ge (b := w7.heap.size) oc_xa.out (by omega)) q11_24
    have q12_25 : w12.cell? ⟨w7.heap.size, 4, none⟩ = some (.slice Agi NI cgi) := cell_far_grown hg (own_far_ge (b := w7.heap.size) oc_xa.out (by omega)) q11_25
    have q12_26 : w12.cell? ⟨w7.heap.size, 5, none⟩ = some (.int .i64 BE) := cell_far_grown hg (own_far_ge (b := w7.heap.size) oc_xa.out (by omega)) q11_26
    have q12_27 : w12.cell? ⟨w7.heap.size, 6, none⟩ = some (.int .i64 GU) := cell_far_grown hg (own_far_ge (b := w7.heap.size) oc_xa.out (by omega)) q11_27
    have b12 := Lib.hid (below_grown' o11_xa.out (by omega) b11.out hg)
    have t12 : w.heap.size ≤ w12.heap.size := b12.out.size
    have o12_wa := Lib.hid (o11_wa.out.kept hg (own_ne' oc_wa.out oc_xa.out (by omega)))
    have o12_wk := Lib.hid (o11_wk.out.kept hg (own_ne' oc_wk.out oc_xa.out (by omega)))
    have o12_wi := Lib.hid (o11_wi.out.kept hg (own_ne' oc_wi.out oc_xa.out (by omega)))
    have o12_y := Lib.hid (o11_y.out.kept hg (own_ne oc_xa.out oc_y.out (by omega)))
    have o12_ga := Lib.hid (o11_ga.out.kept hg (own_ne oc_xa.out oc_ga.out (by omega)))
    have o12_gk := Lib.hid (o11_gk.out.kept hg (own_ne oc_xa.out oc_gk.out (by omega)))
    have o12_gi := Lib.hid (o11_gi.out.kept hg (own_ne oc_xa.out oc_gi.out (by omega)))
    have o12_z := Lib.hid (o11_z.out.kept hg (own_ne oc_xa.out oc_z.out (by omega)))
    clear q11_0 q11_1 q11_2 q11_3 q11_4 q11_5 q11_6 q11_7 q11_8 q11_9 q11_10 q11_11 q11_12 q11_13 q11_14 q11_15 q11_16 q11_17 q11_18 q11_19 q11_20 q11_21 q11_22 q11_23 q11_24 q11_25 q11_26 q11_27
    clear hg
    have o12_xk := Lib.hid hk1
    have hg := hg2
    have s13 : w12.heap.size ≤ w13.heap.size := (by have := hg.size; (try simp at this); omega)
    have z13_0 : w.heap.size < w13.heap.size := (by omega)
    have z13_1 : w4.heap.size < w13.heap.size := (by omega)
    have z13_2 : w5.heap.size < w13.heap.size := (by omega)
    have z13_3 : w7.heap.size < w13.heap.size := (by omega)
    have q13_0 : w13.cell? ⟨w.heap.size, 0, none⟩ = some (.int .i64 u) := cell_far_grown hg (own_far_lt (b := w.heap.size) oc_xk.out (by omega)) q12_0
    have q13_1 : w13.cell? ⟨w.heap.size, 1, none⟩ = some (.int .i64 lo) := cell_far_grown hg (own_far_lt (b := w.heap.size) oc_xk.out (by omega)) q12_1
    have q13_2 : w13.cell? ⟨w.heap.size, 2, none⟩ = some (.slice A n c) := cell_far_grown hg (own_far_lt (b := w.heap.size) oc_xk.out (by omega)) q12_2
    have q13_3 : w13.cell? ⟨w.heap.size, 3, none⟩ = some (.slice K k kc) := cell_far_grown hg (own_far_lt (b := w.heap.size) oc_xk.out (by omega)) q12_3
    have q13_4 : w13.cell? ⟨w.heap.size, 4, none⟩ = some (.slice I m ic) := cell_far_grown hg (own_far_lt (b := w.heap.size) oc_xk.out (by omega)) q12_4
    have q13_5 : w13.cell? ⟨w.heap.size, 5, none⟩ = some (.int .i64 be) := cell_far_grown hg (own_far_lt (b := w.heap.size) oc_xk.out (by omega)) q12_5
    have q13_6 : w13.cell? ⟨w.heap.size, 6, none⟩ = some (.int .i64 gu) := cell_far_grown hg (own_far_lt (b := w.heap.size) oc_xk.out (by omega)) q12_6
    have q13_7 : w13.cell? ⟨w4.heap.size, 0, none⟩ = some (.int .i64 U) := cell_far_grown hg (own_far_lt (b := w4.heap.size) oc_xk.out (by omega)) q12_7
    have q13_8 : w13.cell? ⟨w4.heap.size, 1, none⟩ = some (.int .i64 LO) := cell_far_grown hg (own_far_lt (b := w4.heap.size) oc_xk.out (by omega)) q12_8
    have q13_9 : w13.cell? ⟨w4.heap.size, 2, none⟩ = some (.slice Awa N cwa) := cell_far_grown hg (own_far_lt (b := w4.heap.size) oc_xk.out (by omega)) q12_9
    have q13_10 : w13.cell? ⟨w4.heap.size, 3, none⟩ = some (.slice Awk NK cwk) := cell_far_grown hg (own_far_lt (b := w4.heap.size) oc_xk.out (by omega)) q12_10
    have q13_11 : w13.cell? ⟨w4.heap.size, 4, none⟩ = some (.slice Awi NI cwi) := cell_far_grown hg (own_far_lt (b := w4.heap.size) oc_xk.out (by omega)) q12_11
    have q13_12 : w13.cell? ⟨w4.heap.size, 5, none⟩ = some (.int .i64 BE) := cell_far_grown hg (own_far_lt (b := w4.heap.size) oc_xk.out (by omega)) q12_12
    have q13_13 : w13.cell? ⟨w4.heap.size, 6, none⟩ = some (.int .i64 GU) := cell_far_grown hg (own_far_lt (b := w4.heap.size) oc_xk.out (by omega)) q12_13
    have q13_14 : w13.cell? ⟨w5.heap.size, 0, none⟩ = some (.int .i64 u) := cell_far_grown hg (own_far_ge (b := w5.heap.size) oc_xk.out (by omega)) q12_14
    have q13_15 : w13.cell? ⟨w5.heap.size, 1, none⟩ = some (.int .i64 lo) := cell_far_grown hg (own_far_ge (b := w5.heap.size) oc_xk.out (by omega)) q12_15
    have q13_16 : w13.cell? ⟨w5.heap.size, 2, none⟩ = some (.slice Axa n cxa) := cell_far_grown hg (own_far_ge (b := w5.heap.size) oc_xk.out (by omega)) q12_16
    have q13_17 : w13.cell? ⟨w5.heap.size, 3, none⟩ = some (.slice Axk k cxk) := cell_far_grown hg (own_far_ge (b := w5.heap.size) oc_xk.out (by omega)) q12_17
    have q13_18 : w13.cell? ⟨w5.heap.size, 4, none⟩ = some (.slice Axi m cxi) := cell_far_grown hg (own_far_ge (b := w5.heap.size) oc_xk.out (by omega)) q12_18
    have q13_19 : w13.cell? ⟨w5.heap.size, 5, none⟩ = some (.int .i64 be) := cell_far_grown hg (own_far_ge (b := w5.heap.size) oc_xk.out (by omega)) q12_19
    have q13_20 : w13.cell? ⟨w5.heap.size, 6, none⟩ = some (.int .i64 gu) := cell_far_grown hg (own_far_ge (b := w5.heap.size) oc_xk.out (by omega)) q12_20
    have q13_21 : w13.cell? ⟨w7.heap.size, 0, none⟩ = some (.int .i64 U) := cell_far_grown hg (own_far_ge (b := w7.heap.size) oc_xk.out (by omega)) q12_21
    have q13_22 : w13.cell? ⟨w7.heap.size, 1, none⟩ = some (.int .i64 LO) := cell_far_grown hg (own_far_ge (b := w7.heap.size) oc_xk.out (by omega)) q12_22
    have q13_23 : w13.cell? ⟨w7.heap.size, 2, none⟩ = some (.slice Aga N cga) := cell_far_grown hg (own_far_ge (b := w7.heap.size) oc_xk.out (by omega)) q12_23
    have q13_24 : w13.cell? ⟨w7.heap.size, 3, none⟩ = some (.slice Agk NK cgk) := cell_far_grown hg (own_far_ge (b := w7.heap.size) oc_xk.out (by omega)) q12_24
    have q13_25 : w13.cell? ⟨w7.heap.size, 4, none⟩ = some (.slice Agi NI cgi) := cell_far_grown hg (own_far_ge (b := w7.heap.size) oc_xk.out (by omega)) q12_25
    have q13_26 : w13.cell? ⟨w7.heap.size, 5, none⟩ = some (.int .i64 BE) := cell_far_grown hg (own_far_ge (b := w7.heap.size) oc_xk.out (by omega)) q12_26
    have q13_27 : w13.cell? ⟨w7.heap.size, 6, none⟩ = some (.int .i64 GU) := cell_far_grown hg (own_far_ge (b := w7.heap.size) oc_xk.out (by omega)) q12_27
    have b13 := Lib.hid (below_grown' o12_xk.out (by omega) b12.out hg)
    have t13 : w.heap.size ≤ w13.heap.size := b13.out.size
    have o13_wa := Lib.hid (o12_wa.out.kept hg (own_ne' oc_wa.out oc_xk.out (by omega)))
    have o13_wk := Lib.hid (o12_wk.out.kept hg (own_ne' oc_wk.out oc_xk.out (by omega)))
    have o13_wi := Lib.hid (o12_wi.out.kept hg (own_ne' oc_wi.out oc_xk.out (by omega)))
    have o13_y := Lib.hid (o12_y.out.kept hg (own_ne oc_xk.out oc_y.out (by omega)))
    have o13_ga := Lib.hid (o12_ga.out.kept hg (own_ne oc_xk.out oc_ga.out (by omega)))
    have o13_gk := Lib.hid (o12_gk.out.kept hg (own_ne oc_xk.out oc_gk.out (by omega)))
    have o13_gi := Lib.hid (o12_gi.out.kept hg (own_ne oc_xk.out oc_gi.out (by omega)))
    have o13_z := Lib.hid (o12_z.out.kept hg (own_ne oc_xk.out oc_z.out (by omega)))
    clear q12_0 q12_1 q12_2 q12_3 q12_4 q12_5 q12_6 q12_7 q12_8 q12_9 q12_10 q12_11 q12_12 q12_13 q12_14 q12_15 q12_16 q12_17 q12_18 q12_19 q12_20 q12_21 q12_22 q12_23 q12_24 q12_25 q12_26 q12_27
    clear hg
    have o13_xi := Lib.hid hi2
    have hg := hg3
    have s14 : w13.heap.size ≤ w14.heap.size := (by have := hg.size; (try simp at this); omega)
    have z14_0 : w.heap.size < w14.heap.size := (by omega)
    have z14_1 : w4.heap.size < w14.heap.size := (by omega)
    have z14_2 : w5.heap.size < w14.heap.size := (by omega)
    have z14_3 : w7.heap.size < w14.heap.size := (by omega)
    have q14_0 : w14.cell? ⟨w.heap.size, 0, none⟩ = some (.int .i64 u) := cell_far_grown hg (own_far_lt (b := w.heap.size) oc_xi.out (by omega)) q13_0
    have q14_1 : w14.cell? ⟨w.heap.size, 1, none⟩ = some (.int .i64 lo) := cell_far_grown hg (own_far_lt (b := w.heap.size) oc_xi.out (by omega)) q13_1
    have q14_2 : w14.cell? ⟨w.heap.size, 2, none⟩ = some (.slice A n c) := cell_far_grown hg (own_far_lt (b := w.heap.size) oc_xi.out (by omega)) q13_2
    have q14_3 : w14.cell? ⟨w.heap.size, 3, none⟩ = some (.slice K k kc) := cell_far_grown hg (own_far_lt (b := w.heap.size) oc_xi.out (by omega)) q13_3
    have q14_4 : w14.cell? ⟨w.heap.size, 4, none⟩ = some (.slice I m ic) := cell_far_grown hg (own_far_lt (b := w.heap.size) oc_xi.out (by omega)) q13_4
    have q14_5 : w14.cell? ⟨w.heap.size, 5, none⟩ = some (.int .i64 be) := cell_far_grown hg (own_far_lt (b := w.heap.size) oc_xi.out (by omega)) q13_5
    have q14_6 : w14.cell? ⟨w.heap.size, 6, none⟩ = some (.int .i64 gu) := cell_far_grown hg (own_far_lt (b := w.heap.size) oc_xi.out (by omega)) q13_6
    have q14_7 : w14.cell? ⟨w4.heap.size, 0, none⟩ = some (.int .i64 U) := cell_far_grown hg (own_far_lt (b := w4.heap.size) oc_xi.out (by omega)) q13_7
    have q14_8 : w14.cell? ⟨w4.heap.size, 1, none⟩ = some (.int .i64 LO) := cell_far_grown hg (own_far_lt (b := w4.heap.size) oc_xi.out (by omega)) q13_8
    have q14_9 : w14.cell? ⟨w4.heap.size, 2, none⟩ = some (.slice Awa N cwa) := cell_far_grown hg (own_far_lt (b := w4.heap.size) oc_xi.out (by omega)) q13_9
    have q14_10 : w14.cell? ⟨w4.heap.size, 3, none⟩ = some (.slice Awk NK cwk) := cell_far_grown hg (own_far_lt (b := w4.heap.size) oc_xi.out (by omega)) q13_10
    have q14_11 : w14.cell? ⟨w4.heap.size, 4, none⟩ = some (.slice Awi NI cwi) := cell_far_grown hg (own_far_lt (b := w4.heap.size) oc_xi.out (by omega)) q13_11
    have q14_12 : w14.cell? ⟨w4.heap.size, 5, none⟩ = some (.int .i64 BE) := cell_far_grown hg (own_far_lt (b := w4.heap.size) oc_xi.out (by omega)) q13_12
    have q14_13 : w14.cell? ⟨w4.heap.size, 6, none⟩ = some (.int .i64 GU) := cell_far_grown hg (own_far_lt (b := w4.heap.size) oc_xi.out (by omega)) q13_13
    have q14_14 : w14.cell? ⟨w5.heap.size, 0, none⟩ = some (.int .i64 u) := cell_far_grown hg (own_far_ge (b := w5.heap.size) oc_xi.out (by omega)) q13_14
    have q14_15 : w14.cell? ⟨w5.heap.size, 1, none⟩ = some (.int .i64 lo) := cell_far_grown hg (own_far_ge (b := w5.heap.size) oc_xi.out (by omega)) q13_15
    have q14_16 : w14.cell? ⟨w5.heap.size, 2, none⟩ = some (.slice Axa n cxa) := cell_far_grown hg (own_far_ge (b := w5.heap.size) oc_xi.out (by omega)) q13_16
    have q14_17 : w14.cell? ⟨w5.heap.size, 3, none⟩ = some (.slice Axk k cxk) := cell_far_grown hg (own_far_ge (b := w5.heap.size) oc_xi.out (by omega)) q13_17
    have q14_18 : w14.cell? ⟨w5.heap.size, 4, none⟩ = some (.slice Axi m cxi) := cell_far_grown hg (own_far_ge (b := w5.heap.size) oc_xi.out (by omega)) q13_18
    have q14_19 : w14.cell? ⟨w5.heap.size, 5, none⟩ = some (.int .i64 be) := cell_far_grown hg (own_far_ge (b := w5.heap.size) oc_xi.out (by omega)) q13_19
    have q14_20 : w14.cell? ⟨w5.heap.size, 6, none⟩ = some (.int .i64 gu) := cell_far_grown hg (own_far_ge (b := w5.heap.size) oc_xi.out (by omega)) q13_20
    have q14_21 : w14.cell? ⟨w7.heap.size, 0, none⟩ = some (.int .i64 U) := cell_far_grown hg (own_far_ge (b := w7.heap.size) oc_xi.out (by omega)) q13_21
    have q14_22 : w14.cell? ⟨w7.heap.size, 1, none⟩ = some (.int .i64 LO) := cell_far_grown hg (own_far_ge (b := w7.heap.size) oc_xi.out (by omega)) q13_22
    have q14_23 : w14.cell? ⟨w7.heap.size, 2, none⟩ = some (.slice Aga N cga) := cell_far_grown hg (own_far_ge (b := w7.heap.size) oc_xi.out (by omega)) q13_23
    have q14_24 : w14.cell? ⟨w7.heap.size, 3, none⟩ = some (.slice Agk NK cgk) := cell_far_grown hg (own_far_ge (b := w7.heap.size) oc_xi.out (by omega)) q13_24
    have q14_25 : w14.cell? ⟨w7.heap.size, 4, none⟩ = some (.slice Agi NI cgi) := cell_far_grown hg (own_far_ge (b := w7.heap.size) oc_xi.out (by omega)) q13_25
    have q14_26 : w14.cell? ⟨w7.heap.size, 5, none⟩ = some (.int .i64 BE) := cell_far_grown hg (own_far_ge (b := w7.heap.size) oc_xi.out (by omega)) q13_26
    have q14_27 : w14.cell? ⟨w7.heap.size, 6, none⟩ = some (.int .i64 GU) := cell_far_grown hg (own_far_ge (b := w7.heap.size) oc_xi.out (by omega)) q13_27
    have b14 := Lib.hid (below_grown' o13_xi.out (by omega) b13.out hg)
    have t14 : w.heap.size ≤ w14.heap.size := b14.out.size
    have o14_wa := Lib.hid (o13_wa.out.kept hg (own_ne' oc_wa.out oc_xi.out (by omega)))
    have o14_wk := Lib.hid (o13_wk.out.kept hg (own_ne' oc_wk.out oc_xi.out (by omega)))
    have o14_wi := Lib.hid (o13_wi.out.kept hg (own_ne' oc_wi.out oc_xi.out (by omega)))
    have o14_y := Lib.hid (o13_y.out.kept hg (own_ne oc_xi.out oc_y.out (by omega)))
    have o14_ga := Lib.hid (o13_ga.out.kept hg (own_ne oc_xi.out oc_ga.out (by omega)))
    have o14_gk := Lib.hid (o13_gk.out.kept hg (own_ne oc_xi.out oc_gk.out (by omega)))
    have o14_gi := Lib.hid (o13_gi.out.kept hg (own_ne oc_xi.out oc_gi.out (by omega)))
    have o14_z := Lib.hid (o13_z.out.kept hg (own_ne oc_xi.out oc_z.out (by omega)))
    clear q13_0 q13_1 q13_2 q13_3 q13_4 q13_5 q13_6 q13_7 q13_8 q13_9 q13_10 q13_11 q13_12 q13_13 q13_14 q13_15 q13_16 q13_17 q13_18 q13_19 q13_20 q13_21 q13_22 q13_23 q13_24 q13_25 q13_26 q13_27
    clear hg
    have o14_xa := Lib.hid hoa
    have o14_xk := Lib.hid hok
    have o14_xi := Lib.hid hoi
    clear hg1 hg2 hg3 hk1 hi2 hoa hok hoi
    go_wp2_with fail
    refine (markMindStepS_any Ay n2 cy _ _ (1 + (n : Int) * 2 + k + m) _ (by omega) (by omega) (by omega) o14_y.out).mono ?_
    rintro e w15 ⟨rfl, ho, hg⟩
    have s15 : w14.heap.size ≤ w15.heap.size := (by have := hg.size; (try simp at this); omega)
    have z15_0 : w.heap.size < w15.heap.size := (by omega)
    have z15_1 : w4.heap.size < w15.heap.size := (by omega)
    have z15_2 : w5.heap.size < w15.heap.size := (by omega)
    have z15_3 : w7.heap.size < w15.heap.size := (by omega)
    have q15_0 : w15.cell? ⟨w.heap.size, 0, none⟩ = some (.int .i64 u) := cell_far_grown hg (own_far_lt (b := w.heap.size) oc_y.out (by omega)) q14_0
    have q15_1 : w15.cell? ⟨w.heap.size, 1, none⟩ = some (.int .i64 lo) := cell_far_grown hg (own_far_lt (b := w.heap.size) oc_y.out (by omega)) q14_1
    have q15_2 : w15.cell? ⟨w.heap.size, 2, none⟩ = some (.slice A n c) := cell_far_grown hg (own_far_lt (b := w.heap.size) oc_y.out (by omega)) q14_2
    have q15_3 : w15.cell? ⟨w.heap.size, 3, none⟩ = some (.slice K k kc) := cell_far_grown hg (own_far_lt (b := w.heap.size) oc_y.out (by omega)) q14_3
    have q15_4 : w15.cell? ⟨w.heap.size, 4, none⟩ = some (.slice I m ic) := cell_far_grown hg (own_far_lt (b := w.heap.size) oc_y.out (by omega)) q14_4
    have q15_5 : w15.cell? ⟨w.heap.size, 5, none⟩ = some (.int .i64 be) := cell_far_grown hg (own_far_lt (b := w.heap.size) oc_y.out (by omega)) q14_5
    have q15_6 : w15.cell? ⟨w.heap.size, 6, none⟩ = some (.int .i64 gu) := cell_far_grown hg (own_far_lt (b := w.heap.size) oc_y.out (by omega)) q14_6
    have q15_7 : w15.cell? ⟨w4.heap.size, 0, none⟩ = some (.int .i64 U) := cell_far_grown hg (own_far_lt (b := w4.heap.size) oc_y.out (by omega)) q14_7
    have q15_8 : w15.cell? ⟨w4.heap.size, 1, none⟩ = some (.int .i64 LO) := cell_far_grown hg (own_far_lt (b := w4.heap.size) oc_y.out (by omega)) q14_8
    have q15_9 : w15.cell? ⟨w4.heap.size, 2, none⟩ = some (.slice Awa N cwa) := cell_far_grown hg (own_far_lt (b := w4.heap.size) oc_y.out (by omega)) q14_9
    have q15_10 : w15.cell? ⟨w4.heap.size, 3, none⟩ = some (.slice Awk NK cwk) := cell_far_grown hg (own_far_lt (b := w4.heap.size) oc_y.out (by omega)) q14_10
    have q15_11 : w15.cell? ⟨w4.heap.size, 4, none⟩ = some (.slice Awi NI cwi) := cell_far_grown hg (own_far_lt (b := w4.heap.size) oc_y.out (by omega)) q14_11
    have q15_12 : w15.cell? ⟨w4.heap.size, 5, none⟩ = some (.int .i64 BE) := cell_far_grown hg (own_far_lt (b := w4.heap.size) oc_y.out (by omega)) q14_12
    have q15_13 : w15.cell? ⟨w4.heap.size, 6, none⟩ = some (.int .i64 GU) := cell_far_grown hg (own_far_lt (b := w4.heap.size) oc_y.out (by omega)) q14_13
    have q15_14 : w15.cell? ⟨w5.heap.size, 0, none⟩ = some (.int .i64 u) := cell_far_grown hg (own_far_lt (b := w5.heap.size) oc_y.out (by omega)) q14_14
    have q15_15 : w15.cell? ⟨w5.heap.size, 1, none⟩ = some (.int .i64 lo) := cell_far_grown hg (own_far_lt (b := w5.heap.size) oc_y.out (by omega)) q14_15
    have q15_16 : w15.cell? ⟨w5.heap.size, 2, none⟩ = some (.slice Axa n cxa) := cell_far_grown hg (own_far_lt (b := w5.heap.size) oc_y.out (by omega)) q14_16
    have q15_17 : w15.cell? ⟨w5.heap.size, 3, none⟩ = some (.slice Axk k cxk) := cell_far_grown hg (own_far_lt (b := w5.heap.size) oc_y.out (by omega)) q14_17
    have q15_18 : w15.cell? ⟨w5.heap.size, 4, none⟩ = some (.slice Axi m cxi) := cell_far_grown hg (own_far_lt (b := w5.heap.size) oc_y.out (by omega)) q14_18
    have q15_19 : w15.cell? ⟨w5.heap.size, 5, none⟩ = some (.int .i64 be) := cell_far_grown hg (own_far_lt (b := w5.heap.size) oc_y.out (by omega)) q14_19
    have q15_20 : w15.cell? ⟨w5.heap.size, 6, none⟩ = some (.int .i64 gu) := cell_far_grown hg (own_far_lt (b := w5.heap.size) oc_y.out (by omega)) q14_20
    have q15_21 : w15.cell? ⟨w7.heap.size, 0, none⟩ = some (.int .i64 U) := cell_far_grown hg (own_far_ge (b := w7.heap.size) oc_y.out (by omega)) q14_21
    have q15_22 : w15.cell? ⟨w7.heap.size, 1, none⟩ = some (.int .i64 LO) := cell_far_grown hg (own_far_ge (b := w7.heap.size) oc_y.out (by omega)) q14_22
    have q15_23 : w15.cell? ⟨w7.heap.size, 2, none⟩ = some (.slice Aga N cga) := cell_far_grown hg (own_far_ge (b := w7.heap.size) oc_y.out (by omega)) q14_23
    have q15_24 : w15.cell? ⟨w7.heap.size, 3, none⟩ = some (.slice Agk NK cgk) := cell_far_grown hg (own_far_ge (b := w7.heap.size) oc_y.out (by omega)) q14_24
    have q15_25 : w15.cell? ⟨w7.heap.size, 4, none⟩ = some (.slice Agi NI cgi) := cell_far_grown hg (own_far_ge (b := w7.heap.size) oc_y.out (by omega)) q14_25
    have q15_26 : w15.cell? ⟨w7.heap.size, 5, none⟩ = some (.int .i64 BE) := cell_far_grown hg (own_far_ge (b := w7.heap.size) oc_y.out (by omega)) q14_26
    have q15_27 : w15.cell? ⟨w7.heap.size, 6, none⟩ = some (.int .i64 GU) := cell_far_grown hg (own_far_ge (b := w7.heap.size) oc_y.out (by omega)) q14_27
    have b15 := Lib.hid (below_grown' o14_y.out (by omega) b14.out hg)
    have t15 : w.heap.size ≤ w15.heap.size := b15.out.size
    have o15_wa := Lib.hid (o14_wa.out.kept hg (own_ne' oc_wa.out oc_y.out (by omega)))
    have o15_wk := Lib.hid (o14_wk.out.kept hg (own_ne' oc_wk.out oc_y.out (by omega)))
    have o15_wi := Lib.hid (o14_wi.out.kept hg (own_ne' oc_wi.out oc_y.out (by omega)))
    have o15_ga := Lib.hid (o14_ga.out.kept hg (own_ne oc_y.out oc_ga.out (by omega)))
    have o15_gk := Lib.hid (o14_gk.out.kept hg (own_ne oc_y.out oc_gk.out (by omega)))
    have o15_gi := Lib.hid (o14_gi.out.kept hg (own_ne oc_y.out oc_gi.out (by omega)))
    have o15_z := Lib.hid (o14_z.out.kept hg (own_ne oc_y.out oc_z.out (by omega)))
    have o15_xi := Lib.hid (o14_xi.out.kept hg (own_ne' oc_xi.out oc_y.out (by omega)))
    have o15_xa := Lib.hid (o14_xa.out.kept hg (own_ne' oc_xa.out oc_y.out (by omega)))
    have o15_xk := Lib.hid (o14_xk.out.kept hg (own_ne' oc_xk.out oc_y.out (by omega)))
    clear q14_0 q14_1 q14_2 q14_3 q14_4 q14_5 q14_6 q14_7 q14_8 q14_9 q14_10 q14_11 q14_12 q14_13 q14_14 q14_15 q14_16 q14_17 q14_18 q14_19 q14_20 q14_21 q14_22 q14_23 q14_24 q14_25 q14_26 q14_27
    have o15_y := Lib.hid ho
    clear ho hg
    go_wp2_with fail
    refine (eqMind_same U LO Aga Awa N cga cwa L Agk Awk NK cgk cwk CL Agi Awi NI cgi cwi IM BE GU _ hN hNK hNI (Reads.of_own o15_ga.out) (Reads.of_own o15_wa.out) (Reads.of_own o15_gk.out) (Reads.of_own o15_wk.out) (Reads.of_own o15_gi.out) (Reads.of_own o15_wi.out)).mono ?_
    rintro e w16 ⟨rfl, hb⟩
    have s16 : w15.heap.size ≤ w16.heap.size := (by have := hb.size; (try simp at this); omega)
    have z16_0 : w.heap.size < w16.heap.size := (by omega)
    have z16_1 : w4.heap.size < w16.heap.size := (by omega)
    have z16_2 : w5.heap.size < w16.heap.size := (by omega)
    have z16_3 : w7.heap.size < w16.heap.size := (by omega)
    have q16_0 : w16.cell? ⟨w.heap.size, 0, none⟩ = some (.int .i64 u) := ext_cell hb q15_0
    have q16_1 : w16.cell? ⟨w.heap.size, 1, none⟩ = some (.int .i64 lo) := ext_cell hb q15_1
    have q16_2 : w16.cell? ⟨w.heap.size, 2, none⟩ = some (.slice A n c) := ext_cell hb q15_2
    have q16_3 : w16.cell? ⟨w.heap.size, 3, none⟩ = some (.slice K k kc) := ext_cell hb q15_3
    have q16_4 : w16.cell? ⟨w.heap.size, 4, none⟩ = some (.slice I m ic) := ext_cell hb q15_4
    have q16_5 : w16.cell? ⟨w.heap.size, 5, none⟩ = some (.int .i64 be) := ext_cell hb q15_5
    have q16_6 : w16.cell? ⟨w.heap.size, 6, none⟩ = some (.int .i64 gu) := ext_cell hb q15_6
    have q16_7 : w16.cell? ⟨w4.heap.size, 0, none⟩ = some (.int .i64 U) := ext_cell hb q15_7
    have q16_8 : w16.cell? ⟨w4.heap.size, 1, none⟩ = some (.int .i64 LO) := ext_cell hb q15_8
    have q16_9 : w16.cell? ⟨w4.heap.size, 2, none⟩ = some (.slice Awa N cwa) := ext_cell hb q15_9
    have q16_10 : w16.cell? ⟨w4.heap.size, 3, none⟩ = some (.slice Awk NK cwk) := ext_cell hb q15_10
    have q16_11 : w16.cell? ⟨w4.heap.size, 4, none⟩ = some (.slice Awi NI cwi) := ext_cell hb q15_11
    have q16_12 : w16.cell? ⟨w4.heap.size, 5, none⟩ = some (.int .i64 BE) := ext_cell hb q15_12
    have q16_13 : w16.cell? ⟨w4.heap.size, 6, none⟩ = some (.int .i64 GU) := ext_cell hb q15_13
    have q16_14 : w16.cell? ⟨w5.heap.size, 0, none⟩ = some (.int .i64 u) := ext_cell hb q15_14
    have q16_15 : w16.cell? ⟨w5.heap.size, 1, none⟩ = some (.int .i64 lo) := ext_cell hb q15_15
    have q16_16 : w16.cell? ⟨w5.heap.size, 2, none⟩ = some (.slice Axa n cxa) := ext_cell hb q15_16
    have q16_17 : w16.cell? ⟨w5.heap.size, 3, none⟩ = some (.slice Axk k cxk) := ext_cell hb q15_17
    have q16_18 : w16.cell? ⟨w5.heap.size, 4, none⟩ = some (.slice Axi m cxi) := ext_cell hb q15_18
    have q16_19 : w16.cell? ⟨w5.heap.size, 5, none⟩ = some (.int .i64 be) := ext_cell hb q15_19
    have q16_20 : w16.cell? ⟨w5.heap.size, 6, none⟩ = some (.int .i64 gu) := ext_cell hb q15_20
    have q16_21 : w16.cell? ⟨w7.heap.size, 0, none⟩ = some (.int .i64 U) := ext_cell hb q15_21
    have q16_22 : w16.cell? ⟨w7.heap.size, 1, none⟩ = some (.int .i64 LO) := ext_cell hb q15_22
    have q16_23 : w16.cell? ⟨w7.heap.size, 2, none⟩ = some (.slice Aga N cga) := ext_cell hb q15_23
    have q16_24 : w16.cell? ⟨w7.heap.size, 3, none⟩ = some (.slice Agk NK cgk) := ext_cell hb q15_24
    have q16_25 : w16.cell? ⟨w7.heap.size, 4, none⟩ = some (.slice Agi NI cgi) := ext_cell hb q15_25
    have q16_26 : w16.cell? ⟨w7.heap.size, 5, none⟩ = some (.int .i64 BE) := ext_cell hb q15_26
    have q16_27 : w16.cell? ⟨w7.heap.size, 6, none⟩ = some (.int .i64 GU) := ext_cell hb q15_27
    have b16 := Lib.hid (ext_trans b15.out hb)
    have t16 : w.heap.size ≤ w16.heap.size := b16.out.size
    have o16_wa := Lib.hid (own_ext o15_wa.out hb)
    have o16_wk := Lib.hid (own_ext o15_wk.out hb)
    have o16_wi := Lib.hid (own_ext o15_wi.out hb)
    have o16_y := Lib.hid (own_ext o15_y.out hb)
    have o16_ga := Lib.hid (own_ext o15_ga.out hb)
    have o16_gk := Lib.hid (own_ext o15_gk.out hb)
    have o16_gi := Lib.hid (own_ext o15_gi.out hb)
    have o16_z := Lib.hid (own_ext o15_z.out hb)
    have o16_xi := Lib.hid (own_ext o15_xi.out hb)
    have o16_xa := Lib.hid (own_ext o15_xa.out hb)
    have o16_xk := Lib.hid (own_ext o15_xk.out hb)
    clear q15_0 q15_1 q15_2 q15_3 q15_4 q15_5 q15_6 q15_7 q15_8 q15_9 q15_10 q15_11 q15_12 q15_13 q15_14 q15_15 q15_16 q15_17 q15_18 q15_19 q15_20 q15_21 q15_22 q15_23 q15_24 q15_25 q15_26 q15_27
    clear hb
    go_wp2_with fail
    refine (markMind_any U LO Aga N cga Agk NK cgk Agi NI cgi BE GU _ _ _ _ _ _ _ hN hNK hNI o16_ga.out o16_gk.out o16_gi.out Hhne_g.out).mono ?_
    rintro e w19 ⟨rfl, w17, w18, hg1, hg2, hg3, hk1, hi2, hoa, hok, hoi⟩
    have hg := hg1
    have s17 : w16.heap.size ≤ w17.heap.size := (by have := hg.size; (try simp at this); omega)
    have z17_0 : w.heap.size < w17.heap.size := (by omega)
    have z17_1 : w4.heap.size < w17.heap.size := (by omega)
    have z17_2 : w5.heap.size < w17.heap.size := (by omega)
    have z17_3 : w7.heap.size < w17.heap.size := (by omega)
    have q17_0 : w17.cell? ⟨w.heap.size, 0, none⟩ = some (.int .i64 u) := cell_far_grown hg (own_far_lt (b := w.heap.size) oc_ga.out (by omega)) q16_0
    have q17_1 : w17.cell? ⟨w.heap.size, 1, none⟩ = some (.int .i64 lo) := cell_far_grown hg (own_far_lt (b := w.heap.size) oc_ga.out (by omega)) q16_1
    have q17_2 : w17.cell? ⟨w.heap.size, 2, none⟩ = some (.slice A n c) := cell_far_grown hg (own_far_lt (b := w.heap.size) oc_ga.out (by omega)) q16_2
    have q17_3 : w17.cell? ⟨w.heap.size, 3, none⟩ = some (.slice K k kc) := cell_far_grown hg (own_far_lt (b := w.heap.size) oc_ga.out (by omega)) q16_3
    have q17_4 : w17.cell? ⟨w.heap.size, 4, none⟩ = some (.slice I m ic) := cell_far_grown hg (own_far_lt (b := w.heap.size) oc_ga.out (by omega)) q16_4
    have q17_5 : w17.cell? ⟨w.heap.size, 5, none⟩ = some (.int .i64 be) := cell_far_grown hg (own_far_lt (b := w.heap.size) oc_ga.out (by omega)) q16_5
    have q17_6 : w17.cell? ⟨w.heap.size, 6, none⟩ = some (.int .i64 gu) := cell_far_grown hg (own_far_lt (b := w.heap.size) oc_ga.out (by omega)) q16_6
    have q17_7 : w17.cell? ⟨w4.heap.size, 0, none⟩ = some (.int .i64 U) := cell_far_grown hg (own_far_lt (b := w4.heap.size) oc_ga.out (by omega)) q16_7
    have q17_8 : w17.cell? ⟨w4.heap.size, 1, none⟩ = some (.int .i64 LO) := cell_far_grown hg (own_far_lt (b := w4.heap.size) oc_ga.out (by omega)) q16_8
    have q17_9 : w17.cell? ⟨w4.heap.size, 2, none⟩ = some (.slice Awa N cwa) := cell_far_grown hg (own_far_lt (b := w4.heap.size) oc_ga.out (by omega)) q16_9
    have q17_10 : w17.cell? ⟨w4.heap.size, 3, none⟩ = some (.slice Awk NK cwk) := cell_far_grown hg (own_far_lt (b := w4.heap.size) oc_ga.out (by omega)) q16_10
    have q17_11 : w17.cell? ⟨w4.heap.size, 4, none⟩ = some (.slice Awi NI cwi) := cell_far_grown hg (own_far_lt (b := w4.heap.size) oc_ga.out (by omega)) q16_11
    have q17_12 : w17.cell? ⟨w4.heap.size, 5, none⟩ = some (.int .i64 BE) := cell_far_grown hg (own_far_lt (b := w4.heap.size) oc_ga.out (by omega)) q16_12
    have q17_13 : w17.cell? ⟨w4.heap.size, 6, none⟩ = some (.int .i64 GU) := cell_far_grown hg (own_far_lt (b := w4.heap.size) oc_ga.out (by omega)) q16_13
    have q17_14 : w17.cell? ⟨w5.heap.size, 0, none⟩ = some (.int .i64 u) := cell_far_grown hg (own_far_lt (b := w5.heap.size) oc_ga.out (by omega)) q16_14
    have q17_15 : w17.cell? ⟨w5.heap.size, 1, none⟩ = some (.int .i64 lo) := cell_far_grown hg (own_far_lt (b := w5.heap.size) oc_ga.out (by omega)) q16_15
    have q17_16 : w17.cell? ⟨w5.heap.size, 2, none⟩ = some (.slice Axa n cxa) := cell_far_grown hg (own_far_lt (b := w5.heap.size) oc_ga.out (by omega)) q16_16
    have q17_17 : w17.cell? ⟨w5.heap.size, 3, none⟩ = some (.slice Axk k cxk) := cell_far_grown hg (own_far_lt (b := w5.heap.size) oc_ga.out (by omega)) q16_17
    have q17_18 : w17.cell? ⟨w5.heap.size, 4, none⟩ = some (.slice Axi m cxi) := cell_far_grown hg (own_far_lt (b := w5.heap.size) oc_ga.out (by omega)) q16_18
    have q17_19 : w17.cell? ⟨w5.heap.size, 5, none⟩ = some (.int .i64 be) := cell_far_grown hg (own_far_lt (b := w5.heap.size) oc_ga.out (by omega)) q16_19
    have q17_20 : w17.cell? ⟨w5.heap.size, 6, none⟩ = some (.int .i64 gu) := cell_far_grown hg (own_far_lt (b := w5.heap.size) oc_ga.out (by omega)) q16_20
    have q17_21 : w17.cell? ⟨w7.heap.size, 0, none⟩ = some (.int .i64 U) := cell_far_grown hg (own_far_ge (b := w7.heap.size) oc_ga.out (by omega)) q16_21
    have q17_22 : w17.cell? ⟨w7.heap.size, 1, none⟩ = some (.int .i64 LO) := cell_far_grown hg (own_far_ge (b := w7.heap.size) oc_ga.out (by omega)) q16_22
    have q17_23 : w17.cell? ⟨w7.heap.size, 2, none⟩ = some (.slice Aga N cga) := cell_far_grown hg (own_far_ge (b := w7.heap.size) oc_ga.out (by omega)) q16_23
    have q17_24 : w17.cell? ⟨w7.heap.size, 3, none⟩ = some (.slice Agk NK cgk) := cell_far_grown hg (own_far_ge (b := w7.heap.size) oc_ga.out (by omega)) q16_24
    have q17_25 : w17.cell? ⟨w7.heap.size, 4, none⟩ = some (.slice Agi NI cgi) := cell_far_grown hg (own_far_ge (b := w7.heap.size) oc_ga.out (by omega)) q16_25
    have q17_26 : w17.cell? ⟨w7.heap.size, 5, none⟩ = some (.int .i64 BE) := cell_far_grown hg (own_far_ge (b := w7.heap.size) oc_ga.out (by omega)) q16_26
    have q17_27 : w17.cell? ⟨w7.heap.size, 6, none⟩ = some (.int .i64 GU) := cell_far_grown hg (own_far_ge (b := w7.heap.size) oc_ga.out (by omega)) q16_27
    have b17 := Lib.hid (below_grown' o16_ga.out (by omega) b16.out hg)
    have t17 : w.heap.size ≤ w17.heap.size := b17.out.size
    have o17_wa := Lib.hid (o16_wa.out.kept hg (own_ne' oc_wa.out oc_ga.out (by omega)))
    have o17_wk := Lib.hid (o16_wk.out.kept hg (own_ne' oc_wk.out oc_ga.out (by omega)))
    have o17_wi := Lib.hid (o16_wi.out.kept hg (own_ne' oc_wi.out oc_ga.out (by omega)))
    have o17_y := Lib.hid (o16_y.out.kept hg (own_ne' oc_y.out oc_ga.out (by omega)))
    have o17_z := Lib.hid (o16_z.out.kept hg (own_ne oc_ga.out oc_z.out (by omega)))
    have o17_xi := Lib.hid (o16_xi.out.kept hg (own_ne' oc_xi.out oc_ga.out (by omega)))
    have o17_xa := Lib.hid (o16_xa.out.kept hg (own_ne' oc_xa.out oc_ga.out (by omega)))
    have o17_xk := Lib.hid (o16_xk.out.kept hg (own_ne' oc_xk.out oc_ga.out (by omega)))
    clear q16_0 q16_1 q16_2 q16_3 q16_4 q16_5 q16_6 q16_7 q16_8 q16_9 q16_10 q16_11 q16_12 q16_13 q16_14 q16_15 q16_16 q16_17 q16_18 q16_19 q16_20 q16_21 q16_22 q16_23 q16_24 q16_25 q16_26 q16_27
    clear hg
    have o17_gk := Lib.hid hk1
    have hg := hg2
    have s18 : w17.heap.size ≤ w18.heap.size := (by have := hg.size; (try simp at this); omega)
    have z18_0 : w.heap.size < w18.heap.size := (by omega)
    have z18_1 : w4.heap.size < w18.heap.size := (by omega)
    have z18_2 : w5.heap.size < w18.heap.size := (by omega)
    have z18_3 : w7.heap.size < w18.heap.size := (by omega)
    have q18_0 : w18.cell? ⟨w.heap.size, 0, none⟩ = some (.int .i64 u) := cell_far_grown hg (own_far_lt (b := w.heap.size) oc_gk.out (by omega)) q17_0
    have q18_1 : w18.cell? ⟨w.heap.size, 1, none⟩ = some (.int .i64 lo) := cell_far_grown hg (own_far_lt (b := w.heap.size) oc_gk.out (by omega)) q17_1
    have q18_2 : w18.cell? ⟨w.heap.size, 2, none⟩ = some (.slice A n c) := cell_far_grown hg (own_far_lt (b := w.heap.size) oc_gk.out (by omega)) q17_2
    have q18_3 : w18.cell? ⟨w.heap.size, 3, none⟩ = some (.slice K k kc) := cell_far_grown hg (own_far_lt (b := w.heap.size) oc_gk.out (by omega)) q17_3
    have q18_4 : w18.cell? ⟨w.heap.size, 4, none⟩ = some (.slice I m ic) := cell_far_grown hg (own_far_lt (b := w.heap.size) oc_gk.out (by omega)) q17_4
    have q18_5 : w18.cell? ⟨w.heap.size, 5, none⟩ = some (.int .i64 be) := cell_far_grown hg (own_far_lt (b := w.heap.size) oc_gk.out (by omega)) q17_5
    have q18_6 : w18.cell? ⟨w.heap.size, 6, none⟩ = some (.int .i64 gu) := cell_far_grown hg (own_far_lt (b := w.heap.size) oc_gk.out (by omega)) q17_6
    have q18_7 : w18.cell? ⟨w4.heap.size, 0, none⟩ = some (.int .i64 U) := cell_far_grown hg (own_far_lt (b := w4.heap.size) oc_gk.out (by omega)) q17_7
    have q18_8 : w18.cell? ⟨w4.heap.size, 1, none⟩ = some (.int .i64 LO) := cell_far_grown hg (own_far_lt (b := w4.heap.size) oc_gk.out (by omega)) q17_8
    have q18_9 : w18.cell? ⟨w4.heap.size, 2, none⟩ = some (.slice Awa N cwa) := cell_far_grown hg (own_far_lt (b := w4.heap.size) oc_gk.out (by omega)) q17_9
    have q18_10 : w18.cell? ⟨w4.heap.size, 3, none⟩ = some (.slice Awk NK cwk) := cell_far_grown hg (own_far_lt (b := w4.heap.size) oc_gk.out (by omega)) q17_10
    have q18_11 : w18.cell? ⟨w4.heap.size, 4, none⟩ = some (.slice Awi NI cwi) := cell_far_grown hg (own_far_lt (b := w4.heap.size) oc_gk.out (by omega)) q17_11
    have q18_12 : w18.cell? ⟨w4.heap.size, 5, none⟩ = some (.int .i64 BE) := cell_far_grown hg (own_far_lt (b := w4.heap.size) oc_gk.out (by omega)) q17_12
    have q18_13 : w18.cell? ⟨w4.heap.size, 6, none⟩ = some (.int .i64 GU) := cell_far_grown hg (own_far_lt (b := w4.heap.size) oc_gk.out (by omega)) q17_13
    have q18_14 : w18.cell? ⟨w5.heap.size, 0, none⟩ = some (.int .i64 u) := cell_far_grown hg (own_far_lt (b := w5.heap.size) oc_gk.out (by omega)) q17_14
    have q18_15 : w18.cell? ⟨w5.heap.size, 1, none⟩ = some (.int .i64 lo) := cell_far_grown hg (own_far_lt (b := w5.heap.size) oc_gk.out (by omega)) q17_15
    have q18_16 : w18.cell? ⟨w5.heap.size, 2, none⟩ = some (.slice Axa n cxa) := cell_far_grown hg (own_far_lt (b := w5.heap.size) oc_gk.out (by omega)) q17_16
    have q18_17 : w18.cell? ⟨w5.heap.size, 3, none⟩ = some (.slice Axk k cxk) := cell_far_grown hg (own_far_lt (b := w5.heap.size) oc_gk.out (by omega)) q17_17
    have q18_18 : w18.cell? ⟨w5.heap.size, 4, none⟩ = some (.slice Axi m cxi) := cell_far_grown hg (own_far_lt (b := w5.heap.size) oc_gk.out (by omega)) q17_18
    have q18_19 : w18.cell? ⟨w5.heap.size, 5, none⟩ = some (.int .i64 be) := cell_far_grown hg (own_far_lt (b := w5.heap.size) oc_gk.out (by omega)) q17_19
    have q18_20 : w18.cell? ⟨w5.heap.size, 6, none⟩ = some (.int .i64 gu) := cell_far_grown hg (own_far_lt (b := w5.heap.size) oc_gk.out (by omega)) q17_20
    have q18_21 : w18.cell? ⟨w7.heap.size, 0, none⟩ = some (.int .i64 U) := cell_far_grown hg (own_far_ge (b := w7.heap.size) oc_gk.out (by omega)) q17_21
    have q18_22 : w18.cell? ⟨w7.heap.size, 1, none⟩ = some (.int .i64 LO) := cell_far_grown hg (own_far_ge (b := w7.heap.size) oc_gk.out (by omega)) q17_22
    have q18_23 : w18.cell? ⟨w7.heap.size, 2, none⟩ = some (.slice Aga N cga) := cell_far_grown hg (own_far_ge (b := w7.heap.size) oc_gk.out (by omega)) q17_23
    have q18_24 : w18.cell? ⟨w7.heap.size, 3, none⟩ = some (.slice Agk NK cgk) := cell_far_grown hg (own_far_ge (b := w7.heap.size) oc_gk.out (by omega)) q17_24
    have q18_25 : w18.cell? ⟨w7.heap.size, 4, none⟩ = some (.slice Agi NI cgi) := cell_far_grown hg (own_far_ge (b := w7.heap.size) oc_gk.out (by omega)) q17_25
    have q18_26 : w18.cell? ⟨w7.heap.size, 5, none⟩ = some (.int .i64 BE) := cell_far_grown hg (own_far_ge (b := w7.heap.size) oc_gk.out (by omega)) q17_26
    have q18_27 : w18.cell? ⟨w7.heap.size, 6, none⟩ = some (.int .i64 GU) := cell_far_grown hg (own_far_ge (b := w7.heap.size) oc_gk.out (by omega)) q17_27
    have b18 := Lib.hid (below_grown' o17_gk.out (by omega) b17.out hg)
    have t18 : w.heap.size ≤ w18.heap.size := b18.out.size
    have o18_wa := Lib.hid (o17_wa.out.kept hg (own_ne' oc_wa.out oc_gk.out (by omega)))
    have o18_wk := Lib.hid (o17_wk.out.kept hg (own_ne' oc_wk.out oc_gk.out (by omega)))
    have o18_wi := Lib.hid (o17_wi.out.kept hg (own_ne' oc_wi.out oc_gk.out (by omega)))
    have o18_y := Lib.hid (o17_y.out.kept hg (own_ne' oc_y.out oc_gk.out (by omega)))
    have o18_z := Lib.hid (o17_z.out.kept hg (own_ne oc_gk.out oc_z.out (by omega)))
    have o18_xi := Lib.hid (o17_xi.out.kept hg (own_ne' oc_xi.out oc_gk.out (by omega)))
    have o18_xa := Lib.hid (o17_xa.out.kept hg (own_ne' oc_xa.out oc_gk.out (by omega)))
    have o18_xk := Lib.hid (o17_xk.out.kept hg (own_ne' oc_xk.out oc_gk.out (by omega)))
    clear q17_0 q17_1 q17_2 q17_3 q17_4 q17_5 q17_6 q17_7 q17_8 q17_9 q17_10 q17_11 q17_12 q17_13 q17_14 q17_15 q17_16 q17_17 q17_18 q17_19 q17_20 q17_21 q17_22 q17_23 q17_24 q17_25 q17_26 q17_27
    clear hg
    have o18_gi := Lib.hid hi2
    have hg := hg3
    have s19 : w18.heap.size ≤ w19.heap.size := (by have := hg.size; (try simp at this); omega)
    have z19_0 : w.heap.size < w19.heap.size := (by omega)
    have z19_1 : w4.heap.size < w19.heap.size := (by omega)
    have z19_2 : w5.heap.size < w19.heap.size := (by omega)
    have z19_3 : w7.heap.size < w19.heap.size := (by omega)
    have q19_0 : w19.cell? ⟨w.heap.size, 0, none⟩ = some (.int .i64 u) := cell_far_grown hg (own_far_lt (b := w.heap.size) oc_gi.out (by omega)) q18_0
    have q19_1 : w19.cell? ⟨w.heap.size, 1, none⟩ = some (.int .i64 lo) := cell_far_grown hg (own_far_lt (b := w.heap.size) oc_gi.out (by omega)) q18_1
    have q19_2 : w19.cell? ⟨w.heap.size, 2, none⟩ = some (.slice A n c) := cell_far_grown hg (own_far_lt (b := w.heap.size) oc_gi.out (by omega)) q18_2
    have q19_3 : w19.cell? ⟨w.heap.size, 3, none⟩ = some (.slice K k kc) := cell_far_grown hg (own_far_lt (b := w.heap.size) oc_gi.out (by omega)) q18_3
    have q19_4 : w19.cell? ⟨w.heap.size, 4, none⟩ = some (.slice I m ic) := cell_far_grown hg (own_far_lt (b := w.heap.size) oc_gi.out (by omega)) q18_4
    have q19_5 : w19.cell? ⟨w.heap.size, 5, none⟩ = some (.int .i64 be) := cell_far_grown hg (own_far_lt (b := w.heap.size) oc_gi.out (by omega)) q18_5
    have q19_6 : w19.cell? ⟨w.heap.size, 6, none⟩ = some (.int .i64 gu) := cell_far_grown hg (own_far_lt (b := w.heap.size) oc_gi.out (by omega)) q18_6
    have q19_7 : w19.cell? ⟨w4.heap.size, 0, none⟩ = some (.int .i64 U) := cell_far_grown hg (own_far_lt (b := w4.heap.size) oc_gi.out (by omega)) q18_7
    have q19_8 : w19.cell? ⟨w4.heap.size, 1, none⟩ = some (.int .i64 LO) := cell_far_grown hg (own_far_lt (b := w4.heap.size) oc_gi.out (by omega)) q18_8
    have q19_9 : w19.cell? ⟨w4.heap.size, 2, none⟩ = some (.slice Awa N cwa) := cell_far_grown hg (own_far_lt (b := w4.heap.size) oc_gi.out (by omega)) q18_9
    have q19_10 : w19.cell? ⟨w4.heap.size, 3, none⟩ = some (.slice Awk NK cwk) := cell_far_grown hg (own_far_lt (b := w4.heap.size) oc_gi.out (by omega)) q18_10
    have q19_11 : w19.cell? ⟨w4.heap.size, 4, none⟩ = some (.slice Awi NI cwi) := cell_far_grown hg (own_far_lt (b := w4.heap.size) oc_gi.out (by omega)) q18_11
    have q19_12 : w19.cell? ⟨w4.heap.size, 5, none⟩ = some (.int .i64 BE) := cell_far_grown hg (own_far_lt (b := w4.heap.size) oc_gi.out (by omega)) q18_12
    have q19_13 : w19.cell? ⟨w4.heap.size, 6, none⟩ = some (.int .i64 GU) := cell_far_grown hg (own_far_lt (b := w4.heap.size) oc_gi.out (by omega)) q18_13
    have q19_14 : w19.cell? ⟨w5.heap.size, 0, none⟩ = some (.int .i64 u) := cell_far_grown hg (own_far_lt (b := w5.heap.size) oc_gi.out (by omega)) q18_14
    have q19_15 : w19.cell? ⟨w5.heap.size, 1, none⟩ = some (.int .i64 lo) := cell_far_grown hg (own_far_lt (b := w5.heap.size) oc_gi.out (by omega)) q18_15
    have q19_16 : w19.cell? ⟨w5.heap.size, 2, none⟩ = some (.slice Axa n cxa) := cell_far_grown hg (own_far_lt (b := w5.heap.size) oc_gi.out (by omega)) q18_16
    have q19_17 : w19.cell? ⟨w5.heap.size, 3, none⟩ = some (.slice Axk k cxk) := cell_far_grown hg (own_far_lt (b := w5.heap.size) oc_gi.out (by omega)) q18_17
    have q19_18 : w19.cell? ⟨w5.heap.size, 4, none⟩ = some (.slice Axi m cxi) := cell_far_grown hg (own_far_lt (b := w5.heap.size) oc_gi.out (by omega)) q18_18
    have q19_19 : w19.cell? ⟨w5.heap.size, 5, none⟩ = some (.int .i64 be) := cell_far_grown hg (own_far_lt (b := w5.heap.size) oc_gi.out (by omega)) q18_19
    have q19_20 : w19.cell? ⟨w5.heap.size, 6, none⟩ = some (.int .i64 gu) := cell_far_grown hg (own_far_lt (b := w5.heap.size) oc_gi.out (by omega)) q18_20
    have q19_21 : w19.cell? ⟨w7.heap.size, 0, none⟩ = some (.int .i64 U) := cell_far_grown hg (own_far_ge (b := w7.heap.size) oc_gi.out (by omega)) q18_21
    have q19_22 : w19.cell? ⟨w7.heap.size, 1, none⟩ = some (.int .i64 LO) := cell_far_grown hg (own_far_ge (b := w7.heap.size) oc_gi.out (by omega)) q18_22
    have q19_23 : w19.cell? ⟨w7.heap.size, 2, none⟩ = some (.slice Aga N cga) := cell_far_grown hg (own_far_ge (b := w7.heap.size) oc_gi.out (by omega)) q18_23
    have q19_24 : w19.cell? ⟨w7.heap.size, 3, none⟩ = some (.slice Agk NK cgk) := cell_far_grown hg (own_far_ge (b := w7.heap.size) oc_gi.out (by omega)) q18_24
    have q19_25 : w19.cell? ⟨w7.heap.size, 4, none⟩ = some (.slice Agi NI cgi) := cell_far_grown hg (own_far_ge (b := w7.heap.size) oc_gi.out (by omega)) q18_25
    have q19_26 : w19.cell? ⟨w7.heap.size, 5, none⟩ = some (.int .i64 BE) := cell_far_grown hg (own_far_ge (b := w7.heap.size) oc_gi.out (by omega)) q18_26
    have q19_27 : w19.cell? ⟨w7.heap.size, 6, none⟩ = some (.int .i64 GU) := cell_far_grown hg (own_far_ge (b := w7.heap.size) oc_gi.out (by omega)) q18_27
    have b19 := Lib.hid (below_grown' o18_gi.out (by omega) b18.out hg)
    have t19 : w.heap.size ≤ w19.heap.size := b19.out.size
    have o19_wa := Lib.hid (o18_wa.out.kept hg (own_ne' oc_wa.out oc_gi.out (by omega)))
    have o19_wk := Lib.hid (o18_wk.out.kept hg (own_ne' oc_wk.out oc_gi.out (by omega)))
    have o19_wi := Lib.hid (o18_wi.out.kept hg (own_ne' oc_wi.out oc_gi.out (by omega)))
    have o19_y := Lib.hid (o18_y.out.kept hg (own_ne' oc_y.out oc_gi.out (by omega)))
    have o19_z := Lib.hid (o18_z.out.kept hg (own_ne oc_gi.out oc_z.out (by omega)))
    have o19_xi := Lib.hid (o18_xi.out.kept hg (own_ne' oc_xi.out oc_gi.out (by omega)))
    have o19_xa := Lib.hid (o18_xa.out.kept hg (own_ne' oc_xa.out oc_gi.out (by omega)))
    have o19_xk := Lib.hid (o18_xk.out.kept hg (own_ne' oc_xk.out oc_gi.out (by omega)))
    clear q18_0 q18_1 q18_2 q18_3 q18_4 q18_5 q18_6 q18_7 q18_8 q18_9 q18_10 q18_11 q18_12 q18_13 q18_14 q18_15 q18_16 q18_17 q18_18 q18_19 q18_20 q18_21 q18_22 q18_23 q18_24 q18_25 q18_26 q18_27
    clear hg
    have o19_ga := Lib.hid hoa
    have o19_gk := Lib.hid hok
    have o19_gi := Lib.hid hoi
    clear hg1 hg2 hg3 hk1 hi2 hoa hok hoi
    go_wp2_with fail
    refine (heldMind_any U LO Aga N cga Agk NK cgk Agi NI cgi BE GU _ hN hNK hNI (Reads.of_own o19_ga.out) (Reads.of_own o19_gk.out) (Reads.of_own o19_gi.out)).mono ?_
    rintro e w20 ⟨rfl, hb⟩
    have s20 : w19.heap.size ≤ w20.heap.size := (by have := hb.size; (try simp at this); omega)
    have z20_0 : w.heap.size < w20.heap.size := (by omega)
    have z20_1 : w4.heap.size < w20.heap.size := (by omega)
    have z20_2 : w5.heap.size < w20.heap.size := (by omega)
    have z20_3 : w7.heap.size < w20.heap.size := (by omega)
    have q20_0 : w20.cell? ⟨w.heap.size, 0, none⟩ = some (.int .i64 u) := ext_cell hb q19_0
    have q20_1 : w20.cell? ⟨w.heap.size, 1, none⟩ = some (.int .i64 lo) := ext_cell hb q19_1
    have q20_2 : w20.cell? ⟨w.heap.size, 2, none⟩ = some (.slice A n c) := ext_cell hb q19_2
    have q20_3 : w20.cell? ⟨w.heap.size, 3, none⟩ = some (.slice K k kc) := ext_cell hb q19_3
    have q20_4 : w20.cell? ⟨w.heap.size, 4, none⟩ = some (.slice I m ic) := ext_cell hb q19_4
    have q20_5 : w20.cell? ⟨w.heap.size, 5, none⟩ = some (.int .i64 be) := ext_cell hb q19_5
    have q20_6 : w20.cell? ⟨w.heap.size, 6, none⟩ = some (.int .i64 gu) := ext_cell hb q19_6
    have q20_7 : w20.cell? ⟨w4.heap.size, 0, none⟩ = some (.int .i64 U) := ext_cell hb q19_7
    have q20_8 : w20.cell? ⟨w4.heap.size, 1, none⟩ = some (.int .i64 LO) := ext_cell hb q19_8
    have q20_9 : w20.cell? ⟨w4.heap.size, 2, none⟩ = some (.slice Awa N cwa) := ext_cell hb q19_9
    have q20_10 : w20.cell? ⟨w4.heap.size, 3, none⟩ = some (.slice Awk NK cwk) := ext_cell hb q19_10
    have q20_11 : w20.cell? ⟨w4.heap.size, 4, none⟩ = some (.slice Awi NI cwi) := ext_cell hb q19_11
    have q20_12 : w20.cell? ⟨w4.heap.size, 5, none⟩ = some (.int .i64 BE) := ext_cell hb q19_12
    have q20_13 : w20.cell? ⟨w4.heap.size, 6, none⟩ = some (.int .i64 GU) := ext_cell hb q19_13
    have q20_14 : w20.cell? ⟨w5.heap.size, 0, none⟩ = some (.int .i64 u) := ext_cell hb q19_14
    have q20_15 : w20.cell? ⟨w5.heap.size, 1, none⟩ = some (.int .i64 lo) := ext_cell hb q19_15
    have q20_16 : w20.cell? ⟨w5.heap.size, 2, none⟩ = some (.slice Axa n cxa) := ext_cell hb q19_16
    have q20_17 : w20.cell? ⟨w5.heap.size, 3, none⟩ = some (.slice Axk k cxk) := ext_cell hb q19_17
    have q20_18 : w20.cell? ⟨w5.heap.size, 4, none⟩ = some (.slice Axi m cxi) := ext_cell hb q19_18
    have q20_19 : w20.cell? ⟨w5.heap.size, 5, none⟩ = some (.int .i64 be) := ext_cell hb q19_19
    have q20_20 : w20.cell? ⟨w5.heap.size, 6, none⟩ = some (.int .i64 gu) := ext_cell hb q19_20
    have q20_21 : w20.cell? ⟨w7.heap.size, 0, none⟩ = some (.int .i64 U) := ext_cell hb q19_21
    have q20_22 : w20.cell? ⟨w7.heap.size, 1, none⟩ = some (.int .i64 LO) := ext_cell hb q19_22
    have q20_23 : w20.cell? ⟨w7.heap.size, 2, none⟩ = some (.slice Aga N cga) := ext_cell hb q19_23
    have q20_24 : w20.cell? ⟨w7.heap.size, 3, none⟩ = some (.slice Agk NK cgk) := ext_cell hb q19_24
    have q20_25 : w20.cell? ⟨w7.heap.size, 4, none⟩ = some (.slice Agi NI cgi) := ext_cell hb q19_25
    have q20_26 : w20.cell? ⟨w7.heap.size, 5, none⟩ = some (.int .i64 BE) := ext_cell hb q19_26
    have q20_27 : w20.cell? ⟨w7.heap.size, 6, none⟩ = some (.int .i64 GU) := ext_cell hb q19_27
    have b20 := Lib.hid (ext_trans b19.out hb)
    have t20 : w.heap.size ≤ w20.heap.size := b20.out.size
    have o20_wa := Lib.hid (own_ext o19_wa.out hb)
    have o20_wk := Lib.hid (own_ext o19_wk.out hb)
    have o20_wi := Lib.hid (own_ext o19_wi.out hb)
    have o20_y := Lib.hid (own_ext o19_y.out hb)
    have o20_z := Lib.hid (own_ext o19_z.out hb)
    have o20_xi := Lib.hid (own_ext o19_xi.out hb)
    have o20_xa := Lib.hid (own_ext o19_xa.out hb)
    have o20_xk := Lib.hid (own_ext o19_xk.out hb)
    have o20_gi := Lib.hid (own_ext o19_gi.out hb)
    have o20_ga := Lib.hid (own_ext o19_ga.out hb)
    have o20_gk := Lib.hid (own_ext o19_gk.out hb)
    clear q19_0 q19_1 q19_2 q19_3 q19_4 q19_5 q19_6 q19_7 q19_8 q19_9 q19_10 q19_11 q19_12 q19_13 q19_14 q19_15 q19_16 q19_17 q19_18 q19_19 q19_20 q19_21 q19_22 q19_23 q19_24 q19_25 q19_26 q19_27
    clear hb
    go_wp2_with fail
    refine (toMind_any u lo A n c l K k kc cl I m ic im be gu _ hn hk hm ((H.out.ext b20.out (Nat.le_refl _)).more (by first | omega | (simp <;> omega))) ((HC.out.ext b20.out (Nat.le_refl _)).more (by first | omega | (simp <;> omega))) ((HI.out.ext b20.out (Nat.le_refl _)).more (by first | omega | (simp <;> omega)))).mono ?_
    rintro e w21 ⟨Apa, cpa, Apk, cpk, Api, cpi, rfl, hne_p, ho_pa, ho_pk, ho_pi, hb⟩
    have s21 : w20.heap.size ≤ w21.heap.size := (by have := hb.size; (try simp at this); omega)
    have z21_0 : w.heap.size < w21.heap.size := (by omega)
    have z21_1 : w4.heap.size < w21.heap.size := (by omega)
    have z21_2 : w5.heap.size < w21.heap.size := (by omega)
    have z21_3 : w7.heap.size < w21.heap.size := (by omega)
    have q21_0 : w21.cell? ⟨w.heap.size, 0, none⟩ = some (.int .i64 u) := ext_cell hb q20_0
    have q21_1 : w21.cell? ⟨w.heap.size, 1, none⟩ = some (.int .i64 lo) := ext_cell hb q20_1
    have q21_2 : w21.cell? ⟨w.heap.size, 2, none⟩ = some (.slice A n c) := ext_cell hb q20_2
    have q21_3 : w21.cell? ⟨w.heap.size, 3, none⟩ = some (.slice K k kc) := ext_cell hb q20_3
    have q21_4 : w21.cell? ⟨w.heap.size, 4, none⟩ = some (.slice I m ic) := ext_cell hb q20_4
    have q21_5 : w21.cell? ⟨w.heap.size, 5, none⟩ = some (.int .i64 be) := ext_cell hb q20_5
    have q21_6 : w21.cell? ⟨w.heap.size, 6, none⟩ = some (.int .i64 gu) := ext_cell hb q20_6
    have q21_7 : w21.cell? ⟨w4.heap.size, 0, none⟩ = some (.int .i64 U) := ext_cell hb q20_7
    have q21_8 : w21.cell? ⟨w4.heap.size, 1, none⟩ = some (.int .i64 LO) := ext_cell hb q20_8
    have q21_9 : w21.cell? ⟨w4.heap.size, 2, none⟩ = some (.slice Awa N cwa) := ext_cell hb q20_9
    have q21_10 : w21.cell? ⟨w4.heap.size, 3, none⟩ = some (.slice Awk NK cwk) := ext_cell hb q20_10
    have q21_11 : w21.cell? ⟨w4.heap.size, 4, none⟩ = some (.slice Awi NI cwi) := ext_cell hb q20_11
    have q21_12 : w21.cell? ⟨w4.heap.size, 5, none⟩ = some (.int .i64 BE) := ext_cell hb q20_12
    have q21_13 : w21.cell? ⟨w4.heap.size, 6, none⟩ = some (.int .i64 GU) := ext_cell hb q20_13
    have q21_14 : w21.cell? ⟨w5.heap.size, 0, none⟩ = some (.int .i64 u) := ext_cell hb q20_14
    have q21_15 : w21.cell? ⟨w5.heap.size, 1, none⟩ = some (.int .i64 lo) := ext_cell hb q20_15
    have q21_16 : w21.cell? ⟨w5.heap.size, 2, none⟩ = some (.slice Axa n cxa) := ext_cell hb q20_16
    have q21_17 : w21.cell? ⟨w5.heap.size, 3, none⟩ = some (.slice Axk k cxk) := ext_cell hb q20_17
    have q21_18 : w21.cell? ⟨w5.heap.size, 4, none⟩ = some (.slice Axi m cxi) := ext_cell hb q20_18
    have q21_19 : w21.cell? ⟨w5.heap.size, 5, none⟩ = some (.int .i64 be) := ext_cell hb q20_19
    have q21_20 : w21.cell? ⟨w5.heap.size, 6, none⟩ = some (.int .i64 gu) := ext_cell hb q20_20
    have q21_21 : w21.cell? ⟨w7.heap.size, 0, none⟩ = some (.int .i64 U) := ext_cell hb q20_21
    have q21_22 : w21.cell? ⟨w7.heap.size, 1, none⟩ = some (.int .i64 LO) := ext_cell hb q20_22
    have q21_23 : w21.cell? ⟨w7.heap.size, 2, none⟩ = some (.slice Aga N cga) := ext_cell hb q20_23
    have q21_24 : w21.cell? ⟨w7.heap.size, 3, none⟩ = some (.slice Agk NK cgk) := ext_cell hb q20_24
    have q21_25 : w21.cell? ⟨w7.heap.size, 4, none⟩ = some (.slice Agi NI cgi) := ext_cell hb q20_25
    have q21_26 : w21.cell? ⟨w7.heap.size, 5, none⟩ = some (.int .i64 BE) := ext_cell hb q20_26
    have q21_27 : w21.cell? ⟨w7.heap.size, 6, none⟩ = some (.int .i64 GU) := ext_cell hb q20_27
    have b21 := Lib.hid (ext_trans b20.out hb)
    have t21 : w.heap.size ≤ w21.heap.size := b21.out.size
    have o21_wa := Lib.hid (own_ext o20_wa.out hb)
    have o21_wk := Lib.hid (own_ext o20_wk.out hb)
    have o21_wi := Lib.hid (own_ext o20_wi.out hb)
    have o21_y := Lib.hid (own_ext o20_y.out hb)
    have o21_z := Lib.hid (own_ext o20_z.out hb)
    have o21_xi := Lib.hid (own_ext o20_xi.out hb)
    have o21_xa := Lib.hid (own_ext o20_xa.out hb)
    have o21_xk := Lib.hid (own_ext o20_xk.out hb)
    have o21_gi := Lib.hid (own_ext o20_gi.out hb)
    have o21_ga := Lib.hid (own_ext o20_ga.out hb)
    have o21_gk := Lib.hid (own_ext o20_gk.out hb)
    clear q20_0 q20_1 q20_2 q20_3 q20_4 q20_5 q20_6 q20_7 q20_8 q20_9 q20_10 q20_11 q20_12 q20_13 q20_14 q20_15 q20_16 q20_17 q20_18 q20_19 q20_20 q20_21 q20_22 q20_23 q20_24 q20_25 q20_26 q20_27
    have oc_pa := Lib.hid (own_base (base' := w20.heap.size + 0) ho_pa (by simp))
    clear ho_pa
    have oc_pk := Lib.hid (own_base (base' := w20.heap.size + 0) ho_pk (by simp))
    clear ho_pk
    have oc_pi := Lib.hid (own_base (base' := w20.heap.size + 0) ho_pi (by simp))
    clear ho_pi
    clear hb
    have Hhne_p := Lib.hid hne_p
    clear hne_p
    go_wp2_with fail
    refine (toMindStepS_any Bs n2 cb ss _ hn2 ((HSS.out.ext b21.out (Nat.le_refl _)).more (by first | omega | (simp <;> omega)))).mono ?_
    rintro e w22 ⟨Ar, cr, rfl, ho_r, hb⟩
    have s22 : w21.heap.size ≤ w22.heap.size := (by have := hb.size; (try simp at this); omega)
    have z22_0 : w.heap.size < w22.heap.size := (by omega)
    have z22_1 : w4.heap.size < w22.heap.size := (by omega)
    have z22_2 : w5.heap.size < w22.heap.size := (by omega)
    have z22_3 : w7.heap.size < w22.heap.size := (by omega)
    have q22_0 : w22.cell? ⟨w.heap.size, 0, none⟩ = some (.int .i64 u) := ext_cell hb q21_0
    have q22_1 : w22.cell? ⟨w.heap.size, 1, none⟩ = some (.int .i64 lo) := ext_cell hb q21_1
    have q22_2 : w22.cell? ⟨w.heap.size, 2, none⟩ = some (.slice A n c) := ext_cell hb q21_2
    have q22_3 : w22.cell? ⟨w.heap.size, 3, none⟩ = some (.slice K k kc) := ext_cell hb q21_3
    have q22_4 : w22.cell? ⟨w.heap.size, 4, none⟩ = some (.slice I m ic) := ext_cell hb q21_4
    have q22_5 : w22.cell? ⟨w.heap.size, 5, none⟩ = some (.int .i64 be) := ext_cell hb q21_5
    have q22_6 : w22.cell? ⟨w.heap.size, 6, none⟩ = some (.int .i64 gu) := ext_cell hb q21_6
    have q22_7 : w22.cell? ⟨w4.heap.size, 0, none⟩ = some (.int .i64 U) := ext_cell hb q21_7
    have q22_8 : w22.cell? ⟨w4.heap.size, 1, none⟩ = some (.int .i64 LO) := ext_cell hb q21_8
    have q22_9 : w22.cell? ⟨w4.heap.size, 2, none⟩ = some (.slice Awa N cwa) := ext_cell hb q21_9
    have q22_10 : w22.cell? ⟨w4.heap.size, 3, none⟩ = some (.slice Awk NK cwk) := ext_cell hb q21_10
    have q22_11 : w22.cell? ⟨w4.heap.size, 4, none⟩ = some (.slice Awi NI cwi) := ext_cell hb q21_11
    have q22_12 : w22.cell? ⟨w4.heap.size, 5, none⟩ = some (.int .i64 BE) := ext_cell hb q21_12
    have q22_13 : w22.cell? ⟨w4.heap.size, 6, none⟩ = some (.int .i64 GU) := ext_cell hb q21_13
    have q22_14 : w22.cell? ⟨w5.heap.size, 0, none⟩ = some (.int .i64 u) := ext_cell hb q21_14
    have q22_15 : w22.cell? ⟨w5.heap.size, 1, none⟩ = some (.int .i64 lo) := ext_cell hb q21_15
    have q22_16 : w22.cell? ⟨w5.heap.size, 2, none⟩ = some (.slice Axa n cxa) := ext_cell hb q21_16
    have q22_17 : w22.cell? ⟨w5.heap.size, 3, none⟩ = some (.slice Axk k cxk) := ext_cell hb q21_17
    have q22_18 : w22.cell? ⟨w5.heap.size, 4, none⟩ = some (.slice Axi m cxi) := ext_cell hb q21_18
    have q22_19 : w22.cell? ⟨w5.heap.size, 5, none⟩ = some (.int .i64 be) := ext_cell hb q21_19
    have q22_20 : w22.cell? ⟨w5.heap.size, 6, none⟩ = some (.int .i64 gu) := ext_cell hb q21_20
    have q22_21 : w22.cell? ⟨w7.heap.size, 0, none⟩ = some (.int .i64 U) := ext_cell hb q21_21
    have q22_22 : w22.cell? ⟨w7.heap.size, 1, none⟩ = some (.int .i64 LO) := ext_cell hb q21_22
    have q22_23 : w22.cell? ⟨w7.heap.size, 2, none⟩ = some (.slice Aga N cga) := ext_cell hb q21_23
    have q22_24 : w22.cell? ⟨w7.heap.size, 3, none⟩ = some (.slice Agk NK cgk) := ext_cell hb q21_24
    have q22_25 : w22.cell? ⟨w7.heap.size, 4, none⟩ = some (.slice Agi NI cgi) := ext_cell hb q21_25
    have q22_26 : w22.cell? ⟨w7.heap.size, 5, none⟩ = some (.int .i64 BE) := ext_cell hb q21_26
    have q22_27 : w22.cell? ⟨w7.heap.size, 6, none⟩ = some (.int .i64 GU) := ext_cell hb q21_27
    have b22 := Lib.hid (ext_trans b21.out hb)
    have t22 : w.heap.size ≤ w22.heap.size := b22.out.size
    have o22_wa := Lib.hid (own_ext o21_wa.out hb)
    have o22_wk := Lib.hid (own_ext o21_wk.out hb)
    have o22_wi := Lib.hid (own_ext o21_wi.out hb)
    have o22_y := Lib.hid (own_ext o21_y.out hb)
    have o22_z := Lib.hid (own_ext o21_z.out hb)
    have o22_xi := Lib.hid (own_ext o21_xi.out hb)
    have o22_xa := Lib.hid (own_ext o21_xa.out hb)
    have o22_xk := Lib.hid (own_ext o21_xk.out hb)
    have o22_gi := Lib.hid (own_ext o21_gi.out hb)
    have o22_ga := Lib.hid (own_ext o21_ga.out hb)
    have o22_gk := Lib.hid (own_ext o21_gk.out hb)
    have o22_pa := Lib.hid (own_ext oc_pa.out hb)
    have o22_pk := Lib.hid (own_ext oc_pk.out hb)
    have o22_pi := Lib.hid (own_ext oc_pi.out hb)
    clear q21_0 q21_1 q21_2 q21_3 q21_4 q21_5 q21_6 q21_7 q21_8 q21_9 q21_10 q21_11 q21_12 q21_13 q21_14 q21_15 q21_16 q21_17 q21_18 q21_19 q21_20 q21_21 q21_22 q21_23 q21_24 q21_25 q21_26 q21_27
    have oc_r := Lib.hid (own_base (base' := w21.heap.size + 0) ho_r (by simp))
    clear ho_r
    clear hb
    go_wp2_with fail
    refine (HB.out _ Apa cpa Apk cpk Api cpi Ar cr (Reads.of_own o22_pa.out) (Reads.of_own o22_pk.out) (Reads.of_own o22_pi.out) (Reads.of_own oc_r.out)).mono ?_
    rintro e w23 ⟨Aha, cha, Ahk, chk, Ahi, chi, rfl, hne_h, ho_ha, ho_hk, ho_hi, hb⟩
    have s23 : w22.heap.size ≤ w23.heap.size := (by have := hb.size; (try simp at this); omega)
    have z23_0 : w.heap.size < w23.heap.size := (by omega)
    have z23_1 : w4.heap.size < w23.heap.size := (by omega)
    have z23_2 : w5.heap.size < w23.heap.size := (by omega)
    have z23_3 : w7.heap.size < w23.heap.size := (by omega)
    have q23_0 : w23.cell? ⟨w.heap.size, 0, none⟩ = some (.int .i64 u) := ext_cell hb q22_0
    have q23_1 : w23.cell? ⟨w.heap.size, 1, none⟩ = some (.int .i64 lo) := ext_cell hb q22_1
    have q23_2 : w23.cell? ⟨w.heap.size, 2, none⟩ = some (.slice A n c) := ext_cell hb q22_2
    have q23_3 : w23.cell? ⟨w.heap.size, 3, none⟩ = some (.slice K k kc) := ext_cell hb q22_3
    have q23_4 : w23.cell? ⟨w.heap.size, 4, none⟩ = some (.slice I m ic) := ext_cell hb q22_4
    have q23_5 : w23.cell? ⟨w.heap.size, 5, none⟩ = some (.int .i64 be) := ext_cell hb q22_5
    have q23_6 : w23.cell? ⟨w.heap.size, 6, none⟩ = some (.int .i64 gu) := ext_cell hb q22_6
    have q23_7 : w23.cell? ⟨w4.heap.size, 0, none⟩ = some (.int .i64 U) := ext_cell hb q22_7
    have q23_8 : w23.cell? ⟨w4.heap.size, 1, none⟩ = some (.int .i64 LO) := ext_cell hb q22_8
    have q23_9 : w23.cell? ⟨w4.heap.size, 2, none⟩ = some (.slice Awa N cwa) := ext_cell hb q22_9
    have q23_10 : w23.cell? ⟨w4.heap.size, 3, none⟩ = some (.slice Awk NK cwk) := ext_cell hb q22_10
    have q23_11 : w23.cell? ⟨w4.heap.size, 4, none⟩ = some (.slice Awi NI cwi) := ext_cell hb q22_11
    have q23_12 : w23.cell? ⟨w4.heap.size, 5, none⟩ = some (.int .i64 BE) := ext_cell hb q22_12
    have q23_13 : w23.cell? ⟨w4.heap.size, 6, none⟩ = some (.int .i64 GU) := ext_cell hb q22_13
    have q23_14 : w23.cell? ⟨w5.heap.size, 0, none⟩ = some (.int .i64 u) := ext_cell hb q22_14
    have q23_15 : w23.cell? ⟨w5.heap.size, 1, none⟩ = some (.int .i64 lo) := ext_cell hb q22_15
    have q23_16 : w23.cell? ⟨w5.heap.size, 2, none⟩ = some (.slice Axa n cxa) := ext_cell hb q22_16
    have q23_17 : w23.cell? ⟨w5.heap.size, 3, none⟩ = some (.slice Axk k cxk) := ext_cell hb q22_17
    have q23_18 : w23.cell? ⟨w5.heap.size, 4, none⟩ = some (.slice Axi m cxi) := ext_cell hb q22_18
    have q23_19 : w23.cell? ⟨w5.heap.size, 5, none⟩ = some (.int .i64 be) := ext_cell hb q22_19
    have q23_20 : w23.cell? ⟨w5.heap.size, 6, none⟩ = some (.int .i64 gu) := ext_cell hb q22_20
    have q23_21 : w23.cell? ⟨w7.heap.size, 0, none⟩ = some (.int .i64 U) := ext_cell hb q22_21
    have q23_22 : w23.cell? ⟨w7.heap.size, 1, none⟩ = some (.int .i64 LO) := ext_cell hb q22_22
    have q23_23 : w23.cell? ⟨w7.heap.size, 2, none⟩ = some (.slice Aga N cga) := ext_cell hb q22_23
    have q23_24 : w23.cell? ⟨w7.heap.size, 3, none⟩ = some (.slice Agk NK cgk) := ext_cell hb q22_24
    have q23_25 : w23.cell? ⟨w7.heap.size, 4, none⟩ = some (.slice Agi NI cgi) := ext_cell hb q22_25
    have q23_26 : w23.cell? ⟨w7.heap.size, 5, none⟩ = some (.int .i64 BE) := ext_cell hb q22_26
    have q23_27 : w23.cell? ⟨w7.heap.size, 6, none⟩ = some (.int .i64 GU) := ext_cell hb q22_27
    have b23 := Lib.hid (ext_trans b22.out hb)
    have t23 : w.heap.size ≤ w23.heap.size := b23.out.size
    have o23_wa := Lib.hid (own_ext o22_wa.out hb)
    have o23_wk := Lib.hid (own_ext o22_wk.out hb)
    have o23_wi := Lib.hid (own_ext o22_wi.out hb)
    have o23_y := Lib.hid (own_ext o22_y.out hb)
    have o23_z := Lib.hid (own_ext o22_z.out hb)
    have o23_xi := Lib.hid (own_ext o22_xi.out hb)
    have o23_xa := Lib.hid (own_ext o22_xa.out hb)
    have o23_xk := Lib.hid (own_ext o22_xk.out hb)
    have o23_gi := Lib.hid (own_ext o22_gi.out hb)
    have o23_ga := Lib.hid (own_ext o22_ga.out hb)
    have o23_gk := Lib.hid (own_ext o22_gk.out hb)
    have o23_pa := Lib.hid (own_ext o22_pa.out hb)
    have o23_pk := Lib.hid (own_ext o22_pk.out hb)
    have o23_pi := Lib.hid (own_ext o22_pi.out hb)
    have o23_r := Lib.hid (own_ext oc_r.out hb)
    clear q22_0 q22_1 q22_2 q22_3 q22_4 q22_5 q22_6 q22_7 q22_8 q22_9 q22_10 q22_11 q22_12 q22_13 q22_14 q22_15 q22_16 q22_17 q22_18 q22_19 q22_20 q22_21 q22_22 q22_23 q22_24 q22_25 q22_26 q22_27
    have oc_ha := Lib.hid (own_base (base' := w22.heap.size + 0) ho_ha (by simp))
    clear ho_ha
    have oc_hk := Lib.hid (own_base (base' := w22.heap.size + 0) ho_hk (by simp))
    clear ho_hk
    have oc_hi := Lib.hid (own_base (base' := w22.heap.size + 0) ho_hi (by simp))
    clear ho_hi
    clear hb
    have Hhne_h := Lib.hid hne_h
    clear hne_h
    go_wp2_with fail
    refine (eqMind_same U LO Aha Awa N cha cwa L Ahk Awk NK chk cwk CL Ahi Awi NI chi cwi IM BE GU _ hN hNK hNI (Reads.of_own (oc_ha.out.alloc _)) (Reads.of_own (o23_wa.out.alloc _)) (Reads.of_own (oc_hk.out.alloc _)) (Reads.of_own (o23_wk.out.alloc _)) (Reads.of_own (oc_hi.out.alloc _)) (Reads.of_own (o23_wi.out.alloc _))).mono ?_
    rintro e w24 ⟨rfl, hb⟩
    have s24 : w23.heap.size + 1 ≤ w24.heap.size := (by have := hb.size; (try simp at this); omega)
    have z24_0 : w.heap.size < w24.heap.size := (by omega)
    have z24_1 : w4.heap.size < w24.heap.size := (by omega)
    have z24_2 : w5.heap.size < w24.heap.size := (by omega)
    have z24_3 : w7.heap.size < w24.heap.size := (by omega)
    have z24_4 : w23.heap.size < w24.heap.size := (by omega)
    have q24_0 : w24.cell? ⟨w.heap.size, 0, none⟩ = some (.int .i64 u) := ext_cell hb (cell_old q23_0 _)
    have q24_1 : w24.cell? ⟨w.heap.size, 1, none⟩ = some (.int .i64 lo) := ext_cell hb (cell_old q23_1 _)
    have q24_2 : w24.cell? ⟨w.heap.size, 2, none⟩ = some (.slice A n c) := ext_cell hb (cell_old q23_2 _)
    have q24_3 : w24.cell? ⟨w.heap.size, 3, none⟩ = some (.slice K k kc) := ext_cell hb (cell_old q23_3 _)
    have q24_4 : w24.cell? ⟨w.heap.size, 4, none⟩ = some (.slice I m ic) := ext_cell hb (cell_old q23_4 _)
    have q24_5 : w24.cell? ⟨w.heap.size, 5, none⟩ = some (.int .i64 be) := ext_cell hb (cell_old q23_5 _)
    have q24_6 : w24.cell? ⟨w.heap.size, 6, none⟩ = some (.int .i64 gu) := ext_cell hb (cell_old q23_6 _)
    have q24_7 : w24.cell? ⟨w4.heap.size, 0, none⟩ = some (.int .i64 U) := ext_cell hb (cell_old q23_7 _)
    have q24_8 : w24.cell? ⟨w4.heap.size, 1, none⟩ = some (.int .i64 LO) := ext_cell hb (cell_old q23_8 _)
    have q24_9 : w24.cell? ⟨w4.heap.size, 2, none⟩ = some (.slice Awa N cwa) := ext_cell hb (cell_old q23_9 _)
    have q24_10 : w24.cell? ⟨w4.heap.size, 3, none⟩ = some (.slice Awk NK cwk) := ext_cell hb (cell_old q23_10 _)
    have q24_11 : w24.cell? ⟨w4.heap.size, 4, none⟩ = some (.slice Awi NI cwi) := ext_cell hb (cell_old q23_11 _)
    have q24_12 : w24.cell? ⟨w4.heap.size, 5, none⟩ = some (.int .i64 BE) := ext_cell hb (cell_old q23_12 _)
    have q24_13 : w24.cell? ⟨w4.heap.size, 6, none⟩ = some (.int .i64 GU) := ext_cell hb (cell_old q23_13 _)
    have q24_14 : w24.cell? ⟨w5.heap.size, 0, none⟩ = some (.int .i64 u) := ext_cell hb (cell_old q23_14 _)
    have q24_15 : w24.cell? ⟨w5.heap.size, 1, none⟩ = some (.int .i64 lo) := ext_cell hb (cell_old q23_15 _)
    have q24_16 : w24.cell? ⟨w5.heap.size, 2, none⟩ = some (.slice Axa n cxa) := ext_cell hb (cell_old q23_16 _)
    have q24_17 : w24.cell? ⟨w5.heap.size, 3, none⟩ = some (.slice Axk k cxk) := ext_cell hb (cell_old q23_17 _)
    have q24_18 : w24.cell? ⟨w5.heap.size, 4, none⟩ = some (.slice Axi m cxi) := ext_cell hb (cell_old q23_18 _)
    have q24_19 : w24.cell? ⟨w5.heap.size, 5, none⟩ = some (.int .i64 be) := ext_cell hb (cell_old q23_19 _)
    have q24_20 : w24.cell? ⟨w5.heap.size, 6, none⟩ = some (.int .i64 gu) := ext_cell hb (cell_old q23_20 _)
    have q24_21 : w24.cell? ⟨w7.heap.size, 0, none⟩ = some (.int .i64 U) := ext_cell hb (cell_old q23_21 _)
    have q24_22 : w24.cell? ⟨w7.heap.size, 1, none⟩ = some (.int .i64 LO) := ext_cell hb (cell_old q23_22 _)
    have q24_23 : w24.cell? ⟨w7.heap.size, 2, none⟩ = some (.slice Aga N cga) := ext_cell hb (cell_old q23_23 _)
    have q24_24 : w24.cell? ⟨w7.heap.size, 3, none⟩ = some (.slice Agk NK cgk) := ext_cell hb (cell_old q23_24 _)
    have q24_25 : w24.cell? ⟨w7.heap.size, 4, none⟩ = some (.slice Agi NI cgi) := ext_cell hb (cell_old q23_25 _)
    have q24_26 : w24.cell? ⟨w7.heap.size, 5, none⟩ = some (.int .i64 BE) := ext_cell hb (cell_old q23_26 _)
    have q24_27 : w24.cell? ⟨w7.heap.size, 6, none⟩ = some (.int .i64 GU) := ext_cell hb (cell_old q23_27 _)
    have q24_28 : w24.cell? ⟨w23.heap.size, 0, none⟩ = some (.int .i64 U) := ext_cell hb (by simp [go_sem])
    have q24_29 : w24.cell? ⟨w23.heap.size, 1, none⟩ = some (.int .i64 LO) := ext_cell hb (by simp [go_sem])
    have q24_30 : w24.cell? ⟨w23.heap.size, 2, none⟩ = some (.slice Aha N cha) := ext_cell hb (by simp [go_sem])
    have q24_31 : w24.cell? ⟨w23.heap.size, 3, none⟩ = some (.slice Ahk NK chk) := ext_cell hb (by simp [go_sem])
    have q24_32 : w24.cell? ⟨w23.heap.size, 4, none⟩ = some (.slice Ahi NI chi) := ext_cell hb (by simp [go_sem])
    have q24_33 : w24.cell? ⟨w23.heap.size, 5, none⟩ = some (.int .i64 BE) := ext_cell hb (by simp [go_sem])
    have q24_34 : w24.cell? ⟨w23.heap.size, 6, none⟩ = some (.int .i64 GU) := ext_cell hb (by simp [go_sem])
    have b24 := Lib.hid (ext_trans (ext_alloc b23.out _) hb)
    have t24 : w.heap.size ≤ w24.heap.size := b24.out.size
    have o24_wa := Lib.hid (own_ext (o23_wa.out.alloc _) hb)
    have o24_wk := Lib.hid (own_ext (o23_wk.out.alloc _) hb)
    have o24_wi := Lib.hid (own_ext (o23_wi.out.alloc _) hb)
    have o24_y := Lib.hid (own_ext (o23_y.out.alloc _) hb)
    have o24_z := Lib.hid (own_ext (o23_z.out.alloc _) hb)
    have o24_xi := Lib.hid (own_ext (o23_xi.out.alloc _) hb)
    have o24_xa := Lib.hid (own_ext (o23_xa.out.alloc _) hb)
    have o24_xk := Lib.hid (own_ext (o23_xk.out.alloc _) hb)
    have o24_gi := Lib.hid (own_ext (o23_gi.out.alloc _) hb)
    have o24_ga := Lib.hid (own_ext (o23_ga.out.alloc _) hb)
    have o24_gk := Lib.hid (own_ext (o23_gk.out.alloc _) hb)
    have o24_ha := Lib.hid (own_ext (oc_ha.out.alloc _) hb)
    have o24_hk := Lib.hid (own_ext (oc_hk.out.alloc _) hb)
    have o24_hi := Lib.hid (own_ext (oc_hi.out.alloc _) hb)
    clear q23_0 q23_1 q23_2 q23_3 q23_4 q23_5 q23_6 q23_7 q23_8 q23_9 q23_10 q23_11 q23_12 q23_13 q23_14 q23_15 q23_16 q23_17 q23_18 q23_19 q23_20 q23_21 q23_22 q23_23 q23_24 q23_25 q23_26 q23_27
    clear hb
    go_wp2_with fail
    refine (heldMind_any U LO Aga N cga Agk NK cgk Agi NI cgi BE GU _ hN hNK hNI (Reads.of_own o24_ga.out) (Reads.of_own o24_gk.out) (Reads.of_own o24_gi.out)).mono ?_
    rintro e w25 ⟨rfl, hb⟩
    have s25 : w24.heap.size ≤ w25.heap.size := (by have := hb.size; (try simp at this); omega)
    have z25_0 : w.heap.size < w25.heap.size := (by omega)
    have z25_1 : w4.heap.size < w25.heap.size := (by omega)
    have z25_2 : w5.heap.size < w25.heap.size := (by omega)
    have z25_3 : w7.heap.size < w25.heap.size := (by omega)
    have z25_4 : w23.heap.size < w25.heap.size := (by omega)
    have q25_0 : w25.cell? ⟨w.heap.size, 0, none⟩ = some (.int .i64 u) := ext_cell hb q24_0
    have q25_1 : w25.cell? ⟨w.heap.size, 1, none⟩ = some (.int .i64 lo) := ext_cell hb q24_1
    have q25_2 : w25.cell? ⟨w.heap.size, 2, none⟩ = some (.slice A n c) := ext_cell hb q24_2
    have q25_3 : w25.cell? ⟨w.heap.size, 3, none⟩ = some (.slice K k kc) := ext_cell hb q24_3
    have q25_4 : w25.cell? ⟨w.heap.size, 4, none⟩ = some (.slice I m ic) := ext_cell hb q24_4
    have q25_5 : w25.cell? ⟨w.heap.size, 5, none⟩ = some (.int .i64 be) := ext_cell hb q24_5
    have q25_6 : w25.cell? ⟨w.heap.size, 6, none⟩ = some (.int .i64 gu) := ext_cell hb q24_6
    have q25_7 : w25.cell? ⟨w4.heap.size, 0, none⟩ = some (.int .i64 U) := ext_cell hb q24_7
    have q25_8 : w25.cell? ⟨w4.heap.size, 1, none⟩ = some (.int .i64 LO) := ext_cell hb q24_8
    have q25_9 : w25.cell? ⟨w4.heap.size, 2, none⟩ = some (.slice Awa N cwa) := ext_cell hb q24_9
    have q25_10 : w25.cell? ⟨w4.heap.size, 3, none⟩ = some (.slice Awk NK cwk) := ext_cell hb q24_10
    have q25_11 : w25.cell? ⟨w4.heap.size, 4, none⟩ = some (.slice Awi NI cwi) := ext_cell hb q24_11
    have q25_12 : w25.cell? ⟨w4.heap.size, 5, none⟩ = some (.int .i64 BE) := ext_cell hb q24_12
    have q25_13 : w25.cell? ⟨w4.heap.size, 6, none⟩ = some (.int .i64 GU) := ext_cell hb q24_13
    have q25_14 : w25.cell? ⟨w5.heap.size, 0, none⟩ = some (.int .i64 u) := ext_cell hb q24_14
    have q25_15 : w25.cell? ⟨w5.heap.size, 1, none⟩ = some (.int .i64 lo) := ext_cell hb q24_15
    have q25_16 : w25.cell? ⟨w5.heap.size, 2, none⟩ = some (.slice Axa n cxa) := ext_cell hb q24_16
    have q25_17 : w25.cell? ⟨w5.heap.size, 3, none⟩ = some (.slice Axk k cxk) := ext_cell hb q24_17
    have q25_18 : w25.cell? ⟨w5.heap.size, 4, none⟩ = some (.slice Axi m cxi) := ext_cell hb q24_18
    have q25_19 : w25.cell? ⟨w5.heap.size, 5, none⟩ = some (.int .i64 be) := ext_cell hb q24_19
    have q25_20 : w25.cell? ⟨w5.heap.size, 6, none⟩ = some (.int .i64 gu) := ext_cell hb q24_20
    have q25_21 : w25.cell? ⟨w7.heap.size, 0, none⟩ = some (.int .i64 U) := ext_cell hb q24_21
    have q25_22 : w25.cell? ⟨w7.heap.size, 1, none⟩ = some (.int .i64 LO) := ext_cell hb q24_22
    have q25_23 : w25.cell? ⟨w7.heap.size, 2, none⟩ = some (.slice Aga N cga) := ext_cell hb q24_23
    have q25_24 : w25.cell? ⟨w7.heap.size, 3, none⟩ = some (.slice Agk NK cgk) := ext_cell hb q24_24
    have q25_25 : w25.cell? ⟨w7.heap.size, 4, none⟩ = some (.slice Agi NI cgi) := ext_cell hb q24_25
    have q25_26 : w25.cell? ⟨w7.heap.size, 5, none⟩ = some (.int .i64 BE) := ext_cell hb q24_26
    have q25_27 : w25.cell? ⟨w7.heap.size, 6, none⟩ = some (.int .i64 GU) := ext_cell hb q24_27
    have q25_28 : w25.cell? ⟨w23.heap.size, 0, none⟩ = some (.int .i64 U) := ext_cell hb q24_28
    have q25_29 : w25.cell? ⟨w23.heap.size, 1, none⟩ = some (.int .i64 LO) := ext_cell hb q24_29
    have q25_30 : w25.cell? ⟨w23.heap.size, 2, none⟩ = some (.slice Aha N cha) := ext_cell hb q24_30
    have q25_31 : w25.cell? ⟨w23.heap.size, 3, none⟩ = some (.slice Ahk NK chk) := ext_cell hb q24_31
    have q25_32 : w25.cell? ⟨w23.heap.size, 4, none⟩ = some (.slice Ahi NI chi) := ext_cell hb q24_32
    have q25_33 : w25.cell? ⟨w23.heap.size, 5, none⟩ = some (.int .i64 BE) := ext_cell hb q24_33
    have q25_34 : w25.cell? ⟨w23.heap.size, 6, none⟩ = some (.int .i64 GU) := ext_cell hb q24_34
    have b25 := Lib.hid (ext_trans b24.out hb)
    have t25 : w.heap.size ≤ w25.heap.size := b25.out.size
    have o25_wa := Lib.hid (own_ext o24_wa.out hb)
    have o25_wk := Lib.hid (own_ext o24_wk.out hb)
    have o25_wi := Lib.hid (own_ext o24_wi.out hb)
    have o25_y := Lib.hid (own_ext o24_y.out hb)
    have o25_z := Lib.hid (own_ext o24_z.out hb)
    have o25_xi := Lib.hid (own_ext o24_xi.out hb)
    have o25_xa := Lib.hid (own_ext o24_xa.out hb)
    have o25_xk := Lib.hid (own_ext o24_xk.out hb)
    have o25_gi := Lib.hid (own_ext o24_gi.out hb)
    have o25_ga := Lib.hid (own_ext o24_ga.out hb)
    have o25_gk := Lib.hid (own_ext o24_gk.out hb)
    have o25_ha := Lib.hid (own_ext o24_ha.out hb)
    have o25_hk := Lib.hid (own_ext o24_hk.out hb)
    have o25_hi := Lib.hid (own_ext o24_hi.out hb)
    clear q24_0 q24_1 q24_2 q24_3 q24_4 q24_5 q24_6 q24_7 q24_8 q24_9 q24_10 q24_11 q24_12 q24_13 q24_14 q24_15 q24_16 q24_17 q24_18 q24_19 q24_20 q24_21 q24_22 q24_23 q24_24 q24_25 q24_26 q24_27 q24_28 q24_29 q24_30 q24_31 q24_32 q24_33 q24_34
    clear hb
    go_wp2
    go_ret
    exact ⟨rfl, b25.out⟩
end Go.Proofs.Ytlkfffohjeoooaa
