
/- What the laws' helpers over whole frames do. -/
import Derived.Test.YtlkfffohjeoooaaFrS
namespace Go.Proofs.Ytlkfffohjeoooaa
open Go.RowKit
set_option linter.unusedVariables false
set_option linter.unusedSimpArgs false
theorem gr_allocF {w w2 : World} {o : Obj} {r : Option Nat} (h : (w.alloc o).grownBy w2 r) : w.grownBy w2 r :=
  have hb := ext_alloc (ext_refl w) o
  ⟨h.os.trans hb.os, h.tape.trans hb.tape, h.output.trans hb.output, Nat.le_trans hb.size h.size, fun i hi hne => (h.block i (Nat.lt_of_lt_of_le hi hb.size) hne).trans (hb.block i hi)⟩
theorem szFrame_any (u lo : Int) (A : Option Addr) (n c : Nat) (left : Int) (w : World) (hn : n ≤ 9223372036854775807) (h0 : 0 ≤ left) (h1 : left ≤ 1048576) :
    Calls Try.prog 12 #[frV u lo A n c, .int .i64 left] w fun e w' => e = .returned (.int .i64 (szv left n)) ∧ Below w.heap.size w w' := by
  by_cases h : left < n
  · rw [szv_no h]
    have H := Lib.hid (fun w => szIntA2S_any A n c left w hn h0 h1)
    rw [szv_no h] at H
    go_enter Try.func12, Try.ntmps12
    go_wp2_with (go_at_call 87; refine (H.out _).mono ?_; rintro e w' ⟨rfl, rfl⟩)
    go_ret
    exact ⟨rfl, (by repeat (first | exact ext_refl _ | assumption | refine ext_alloc ?_ _ | refine ext_drew ?_ | refine ext_drewN ?_ _ | refine ext_set ?_ (by simp <;> omega) _ | refine ext_trans ?_ (by assumption)))⟩
  · rw [szv_yes h]
    have H := Lib.hid (fun w => szIntA2S_any A n c left w hn h0 h1)
    rw [szv_yes h] at H
    have h2 : ¬ left - (n : Int) < 0 := by omega
    go_enter Try.func12, Try.ntmps12
    go_wp2_with (go_at_call 87; refine (H.out _).mono ?_; rintro e w' ⟨rfl, rfl⟩)
    go_ret
    exact ⟨rfl, (by repeat (first | exact ext_refl _ | assumption | refine ext_alloc ?_ _ | refine ext_drew ?_ | refine ext_drewN ?_ _ | refine ext_set ?_ (by simp <;> omega) _ | refine ext_trans ?_ (by assumption)))⟩
set_option maxHeartbeats 1000000 in
theorem eqFrame_same (u lo : Int) (A B : Option Addr) (n c d : Nat) (l : List R2) (w : World) (hn : n ≤ 1048576) (h : Reads w w.heap.size 2 A n (rowsV2 l)) (h' : Reads w w.heap.size 2 B n (rowsV2 l)) :
    Calls Try.prog 17 #[frV u lo A n c, frV u lo B n d] w fun e w' => e = .returned (.bool true) ∧ Below w.heap.size w w' := by
  have HE := Lib.hid (fun (w : World) h h' => eqIntA2S_any A B n n c d l l w hn hn h h')
  rw [decide_eq_true rfl] at HE
  have H := Lib.hid h
  have H' := Lib.hid h'
  clear h h'
  go_enter Try.func17, Try.ntmps17
  go_wp2_with fail
  refine (HE.out _ ((H.out.ext (ext_alloc (ext_alloc (ext_refl _) _) _) (Nat.le_refl _)).more (by simp; omega)) ((H'.out.ext (ext_alloc (ext_alloc (ext_refl _) _) _) (Nat.le_refl _)).more (by simp; omega))).mono ?_
  rintro e w1 ⟨rfl, hb1⟩
  have b1 := Lib.hid (ext_trans (ext_alloc (ext_alloc (ext_refl w) _) _) hb1)
  clear hb1
  go_wp2
  go_ret
  exact ⟨rfl, b1.out⟩
theorem markFrame_any (u lo : Int) (A : Option Addr) (n c base : Nat) (xs : List Value) (k0 : Int) (w : World) (hn : n ≤ 100000000) (h0 : 0 ≤ k0) (h1 : k0 ≤ 1000000000) (h : w.ownsRow base 155 2 (.slice A n c) n xs) :
    Calls Try.prog 18 #[frV u lo A n c, .int .i64 k0] w fun e w' => e = .returned (.int .i64 (k0 + (n : Int) * 2)) ∧ w'.ownsRow base 155 2 (.slice A n c) n (marks k0 (n * 2)) ∧ w.grownBy w' (Value.ownBlock (.slice A n c)) := by
  have H := Lib.hid h
  clear h
  go_enter Try.func18, Try.ntmps18
  go_wp2_with fail
  refine (markIntA2S_any A n c base xs k0 _ hn h0 h1 (own_ext H.out (ext_alloc (ext_refl _) _))).mono ?_
  rintro e w1 ⟨rfl, h1, h2⟩
  have h1 := Lib.hid h1
  have h2 := Lib.hid (gr_allocF h2)
  go_wp2
  go_ret
  exact ⟨rfl, h1.out, h2.out⟩
theorem heldFrame_any (u lo : Int) (A : Option Addr) (n c : Nat) (k0 : Int) (w : World) (hn : n ≤ 100000000) (h0 : 0 ≤ k0) (h1 : k0 ≤ 1000000000) (h : Reads w w.heap.size 2 A n (marks k0 (n * 2))) :
    Calls Try.prog 25 #[frV u lo A n c, .int .i64 k0] w fun e w' => e = .returned (.int .i64 (k0 + (n : Int) * 2)) ∧ Below w.heap.size w w' := by
  have H := Lib.hid h
  have hneg : ¬ k0 + (n : Int) * 2 < 0 := by omega
  clear h
  go_enter Try.func25, Try.ntmps25
  go_wp2_with fail
  refine (heldIntA2S_any A n c k0 _ hn h0 h1 ((H.out.ext (ext_alloc (ext_refl _) _) (Nat.le_refl _)).more (by simp))).mono ?_
  rintro e w1 ⟨rfl, rfl⟩
  go_wp2
  go_ret
  exact ⟨rfl, (by repeat (first | exact ext_refl _ | assumption | refine ext_alloc ?_ _ | refine ext_drew ?_ | refine ext_drewN ?_ _ | refine ext_set ?_ (by simp <;> omega) _ | refine ext_trans ?_ (by assumption)))⟩
/-- a frame of its own comes back -/
def OwnFrm (u lo : Int) (n : Nat) (l : List R2) (w : World) (e : Ending) (w' : World) : Prop :=
  ∃ A' c', e = .returned (frV u lo A' n c') ∧ w'.ownsRow w.heap.size 155 2 (.slice A' n c') n (rowsV2 l) ∧ Below w.heap.size w w'
set_option maxRecDepth 100000 in
set_option maxHeartbeats 1000000 in
theorem toFrame_any (u lo : Int) (A : Option Addr) (n c : Nat) (l : List R2) (w : World) (hn : n ≤ 1048576) (h : Reads w w.heap.size 2 A n (rowsV2 l)) :
    Calls Try.prog 14 #[frV u lo A n c] w (OwnFrm u lo n l w) := by
  have H := Lib.hid h
  clear h
  go_enter Try.func14, Try.ntmps14
  go_wp2_with fail
  refine (toIntA2S_any A n c l _ hn ((H.out.ext (ext_alloc (ext_alloc (ext_alloc (ext_refl _) _) _) _) (Nat.le_refl _)).more (by simp; omega))).mono ?_
  rintro e w1 ⟨A1, c1, rfl, ho1, hb1⟩
  obtain ⟨hc1, hf1⟩ := bcell hb1
  have z0 : w.heap.size + 1 + 1 < w1.heap.size := by (have := hb1.size; simp at this; omega)
  have z1 : w.heap.size + 1 < w1.heap.size := by omega
  have z2 : w.heap.size < w1.heap.size := by omega
  have b1 := Lib.hid (ext_trans (ext_alloc (ext_alloc (ext_alloc (ext_refl w) _) _) _) hb1)
  have ho1 := Lib.hid (show w1.ownsRow (w.heap.size + 1 + 1 + 1) 155 2 (.slice A1 n c1) n (rowsV2 l) from by simpa using ho1)
  clear hb1
  go_wp2
  refine bodyPost_ret (v := frV u lo A1 n c1) (by simp [results, Try.results14, go_sem, *]) rfl ?_
  refine ⟨A1, c1, rfl, own_base (base := w.heap.size + 1 + 1 + 1) ?_ (by omega), ?_⟩
  · repeat (first | (with_reducible exact ho1.out) | (with_reducible refine own_setF ?_ (own_far_lt ho1.out (by first | (show w.heap.size + 1 < w.heap.size + 1 + 1 + 1; omega) | (show w.heap.size + 1 + 1 < w.heap.size + 1 + 1 + 1; omega))) _))
  · repeat (first | (with_reducible exact b1.out) | (with_reducible refine ext_set ?_ (by simp <;> omega) _))
end Go.Proofs.Ytlkfffohjeoooaa
