
/- enrolled: a new student put in place. -/
import Derived.Test.YtclihlihaigddaaScEa
import Derived.Test.YtclihlihaigddaaScF
namespace Go.Proofs.Ytclihlihaigddaa
open Go.RowKit
set_option linter.unusedVariables false
set_option linter.unusedSimpArgs false
def RetE (o : Option (List R5)) (day pa le : Int) (base : Nat) (v : Value) (w : World) (e : Ending) (w' : World) : Prop :=
  match o with
  | none => e = .returned (.tuple #[schV 0 none 0 0 0 0, .bool false]) ∧ Below w.heap.size w w'
  | some l' => ∃ A c, e = .returned (.tuple #[schV day A l'.length c pa le, .bool true]) ∧ w'.ownsRow base 109 5 (.slice A l'.length c) l'.length (rowsV l') ∧ w.grownBy w' v.ownBlock
def enr (day : Int) (l : List R5) (id v : Int) : Option (List R5) := if 0 ≤ findI l id ∨ inB v 0 5 = false then none else some (insS l id v day)
set_option maxHeartbeats 2000000 in
theorem enrolled_no (day pa le id v : Int) (A : Option Addr) (n c base : Nat) (l : List R5) (w : World) (h : Reads w w.heap.size 5 A n (rowsV l)) (hn : n ≤ 8) (hx : enr day l id v = none) :
    Calls Try.prog 154 #[schV day A n c pa le, .agg #[.int .i64 2, .int .i64 id, .int .i64 v]] w fun e w' => e = .returned (.tuple #[schV 0 none 0 0 0 0, .bool false]) ∧ Below w.heap.size w w' := by
  have HA := Lib.hid (fun w h => at_any day pa le id A n c l w (by omega) h)
  have H := Lib.hid h
  have HW := Lib.hid (inB_within v 0 5)
  obtain ⟨z, hz⟩ : ∃ z, findI l id = z := ⟨_, rfl⟩
  unfold enr at hx
  rw [hz] at HA hx
  clear h hz
  by_cases hz0 : 0 ≤ z
  · clear hx
    go_enter Try.func154, Try.ntmps154
    go_wp2_with fail
    refine (HA.out _ ((H.out.ext (ext_alloc (ext_alloc (ext_alloc (ext_refl _) _) _) _) (Nat.le_refl _)).more (by simp; omega))).mono ?_
    rintro e w1 ⟨rfl, hb1⟩
    obtain ⟨hc1, hf1⟩ := bcell hb1
    have z0 : w.heap.size + 1 + 1 < w1.heap.size := by (have := hb1.size; simp at this; omega)
    have hbw := Lib.hid (ext_trans (ext_alloc (ext_alloc (ext_alloc (ext_refl w) _) _) _) hb1)
    clear hb1
    go_wp2
    refine bodyPost_ret (v := .tuple #[schV 0 none 0 0 0 0, .bool false]) (by simp [results, Try.results154, go_sem, *]) rfl ⟨rfl, (by repeat (first | exact hbw.out | refine ext_set ?_ (by simp <;> omega) _))⟩
  · have hv : inB v 0 5 = false := by
      rcases hv : inB v 0 5 with _ | _
      · rfl
      · simp [hz0, hv] at hx
    rw [hv] at HW
    clear hx hv
    go_enter Try.func154, Try.ntmps154
    go_wp2_with fail
    refine (HA.out _ ((H.out.ext (ext_alloc (ext_alloc (ext_alloc (ext_refl _) _) _) _) (Nat.le_refl _)).more (by simp; omega))).mono ?_
    rintro e w1 ⟨rfl, hb1⟩
    obtain ⟨hc1, hf1⟩ := bcell hb1
    have z0 : w.heap.size + 1 + 1 < w1.heap.size := by (have := hb1.size; simp at this; omega)
    have z1 : w.heap.size + 1 < w1.heap.size := by omega
    have hbw := Lib.hid (ext_trans (ext_alloc (ext_alloc (ext_alloc (ext_refl w) _) _) _) hb1)
    clear hb1
    go_wp2_with (go_at_call 123; refine (HW.out _).mono ?_; rintro e w' ⟨rfl, rfl⟩)
    refine bodyPost_ret (v := .tuple #[schV 0 none 0 0 0 0, .bool false]) (by simp [results, Try.results154, go_sem, *]) rfl ⟨rfl, (by repeat (first | exact hbw.out | refine ext_set ?_ (by simp <;> omega) _))⟩
end Go.Proofs.Ytclihlihaigddaa
