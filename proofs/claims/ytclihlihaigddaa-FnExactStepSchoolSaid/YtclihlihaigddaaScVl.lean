
/- StepSchool: program and reference, walked. -/
import Derived.Test.YtclihlihaigddaaScVk
namespace Go.Proofs.Ytclihlihaigddaa
open Go.RowKit
set_option linter.unusedVariables false
set_option linter.unusedSimpArgs false
def RetStp (day pa le : Int) (l : List R5) (k id v : Int) (w : World) (e : Ending) (w' : World) : Prop := RetSch (stpB day pa le l k id v) w e w'
set_option maxRecDepth 100000 in
set_option maxHeartbeats 4000000 in
theorem implStep_any (day pa le k id v : Int) (A : Option Addr) (n c : Nat) (l : List R5) (w : World) (hn : n ≤ 1048576) (hA : SlOk A n c) (h : Reads w w.heap.size 5 A n (rowsV l)) (hv2 : v ≤ 9223372036854775807) :
    Calls Try.prog 47 #[schV day A n c pa le, .agg #[.int .i64 k, .int .i64 id, .int .i64 v]] w (RetStp day pa le l k id v w) := by
  have HI := Lib.hid (fun (w : World) h => isSchool_any day pa le A n c l w hn h)
  have H := Lib.hid h
  unfold RetStp stpB
  clear h
  rcases hs : schB day l pa le with _ | _
  · rw [hs] at HI
    clear hs
    rw [if_neg (by simp)]
    go_enter Try.func47, Try.ntmps47
    go_wp2_with fail
    refine (HI.out _ ((H.out.ext (ext_alloc (ext_alloc (ext_alloc (ext_refl _) _) _) _) (Nat.le_refl _)).more (by simp; omega))).mono ?_
    rintro e w1 ⟨rfl, hb1⟩
    obtain ⟨hc1, hf1⟩ := bcell hb1
    have z0 : w.heap.size + 1 + 1 < w1.heap.size := by (have := hb1.size; simp at this; omega)
    have b1 := Lib.hid (ext_trans (ext_alloc (ext_alloc (ext_alloc (ext_refl w) _) _) _) hb1)
    clear hb1
    go_wp2
    refine bodyPost_ret (v := .tuple #[schV 0 none 0 0 0 0, .bool false]) (by simp [results, Try.results47, go_sem, *]) rfl ?_
    refine ⟨rfl, ?_⟩
    repeat (first | (with_reducible exact b1.out) | (with_reducible refine ext_set ?_ (by simp <;> omega) _))
  · rw [hs] at HI
    have HS := Lib.hid (fun (w : World) h => stepped_any day pa le k id v A n c l w hA h hs hv2)
    rw [if_pos rfl]
    obtain ⟨O, hO⟩ : ∃ O, stepS day pa le l k id v = O := ⟨_, rfl⟩
    rw [hO] at HS ⊢
    clear hs hO
    go_enter Try.func47, Try.ntmps47
    go_wp2_with fail
    refine (HI.out _ ((H.out.ext (ext_alloc (ext_alloc (ext_alloc (ext_refl _) _) _) _) (Nat.le_refl _)).more (by simp; omega))).mono ?_
    rintro e w1 ⟨rfl, hb1⟩
    have z0 : w.heap.size + 1 + 1 < w1.heap.size := by (have := hb1.size; simp at this; omega)
    have z1 : w.heap.size + 1 < w1.heap.size := by omega
    have z2 : w.heap.size < w1.heap.size := by omega
    have b1 := Lib.hid (ext_trans (ext_alloc (ext_alloc (ext_alloc (ext_refl w) _) _) _) hb1)
    have HB1 := Lib.hid hb1
    obtain ⟨hc1, hf1⟩ := bcell hb1
    clear hb1
    go_wp2_with fail
    refine (HS.out _ ((H.out.ext b1.out (Nat.le_refl _)).more (by omega))).mono ?_
    rcases O with _ | ⟨D, L, P, Q⟩
    · rintro e w2 ⟨rfl, hb2⟩
      obtain ⟨hc2, hf2⟩ := bcell hb2
      have y0 : w.heap.size + 1 + 1 < w2.heap.size := by (have := hb2.size; omega)
      have b2 := Lib.hid (ext_trans b1.out hb2)
      clear hb2
      go_wp2
      refine bodyPost_ret (v := .tuple #[schV 0 none 0 0 0 0, .bool false]) (by simp [results, Try.results47, go_sem, *]) rfl ?_
      refine ⟨rfl, ?_⟩
      repeat (first | (with_reducible exact b2.out) | (with_reducible refine ext_set ?_ (by simp <;> omega) _))
    · rintro e w2 ⟨A2, c2, rfl, ho2, hb2⟩
      obtain ⟨hc2, hf2⟩ := bcell hb2
      have y0 : w.heap.size + 1 + 1 < w2.heap.size := by (have := hb2.size; omega)
      have b2 := Lib.hid (ext_trans b1.out hb2)
      have O2 := Lib.hid ho2
      clear hb2 ho2
      go_wp2
      refine bodyPost_ret (v := .tuple #[schV D A2 L.length c2 P Q, .bool true]) (by simp [results, Try.results47, go_sem, *]) rfl ?_
      refine ⟨A2, c2, rfl, own_base (base := w1.heap.size) ?_ (by omega), ?_⟩
      · repeat (first | (with_reducible exact O2.out) | (with_reducible refine own_set ?_ (by show w.heap.size + 1 + 1 < w1.heap.size; omega) _))
      · repeat (first | (with_reducible exact b2.out) | (with_reducible refine ext_set ?_ (by simp <;> omega) _))
end Go.Proofs.Ytclihlihaigddaa
