
/- StepSchool: the reference, walked. -/
import Derived.Test.YtclihlihaigddaaScVl
namespace Go.Proofs.Ytclihlihaigddaa
open Go.RowKit
set_option linter.unusedVariables false
set_option linter.unusedSimpArgs false
set_option maxRecDepth 100000 in
set_option maxHeartbeats 4000000 in
theorem specStep_any (day pa le k id v : Int) (A : Option Addr) (n c : Nat) (l : List R5) (w : World) (hn : n ≤ 1048576) (hnc : n ≤ c) (hA : SlOk A n c) (h : Reads w w.heap.size 5 A n (rowsV l)) :
    Calls Try.prog 44 #[schV day A n c pa le, .agg #[.int .i64 k, .int .i64 id, .int .i64 v]] w (RetStp day pa le l k id v w) := by
  have HI := Lib.hid (fun (w : World) h => l25Good_any day pa le A n c l w hn h)
  have HT := Lib.hid (fun (w : World) h => l25Step_any day pa le k id v A n c l w hn h)
  have H := Lib.hid h
  unfold RetStp stpB
  clear h
  rcases hs : schB day l pa le with _ | _
  · rw [hs] at HI
    clear hs HT
    rw [if_neg (by simp)]
    go_enter Try.func44, Try.ntmps44
    go_wp2_with fail
    refine (HI.out _ ((H.out.ext (ext_alloc (ext_alloc (ext_alloc (ext_refl _) _) _) _) (Nat.le_refl _)).more (by simp; omega))).mono ?_
    rintro e w1 ⟨rfl, hb1⟩
    obtain ⟨hc1, hf1⟩ := bcell hb1
    have z0 : w.heap.size + 1 + 1 < w1.heap.size := by (have := hb1.size; simp at this; omega)
    have b1 := Lib.hid (ext_trans (ext_alloc (ext_alloc (ext_alloc (ext_refl w) _) _) _) hb1)
    clear hb1
    go_wp2
    refine bodyPost_ret (v := .tuple #[schV 0 none 0 0 0 0, .bool false]) (by simp [results, Try.results44, go_sem, *]) rfl ?_
    refine ⟨rfl, ?_⟩
    repeat (first | (with_reducible exact b1.out) | (with_reducible refine ext_set ?_ (by simp <;> omega) _))
  rw [hs] at HI
  rw [if_pos rfl]
  rcases hk : stepOk l k id v with _ | _
  · rw [stepS_no hk]
    rw [hk] at HT
    clear hk hs
    go_enter Try.func44, Try.ntmps44
    go_wp2_with fail
    refine (HI.out _ ((H.out.ext (ext_alloc (ext_alloc (ext_alloc (ext_refl _) _) _) _) (Nat.le_refl _)).more (by simp; omega))).mono ?_
    rintro e w1 ⟨rfl, hb1⟩
    obtain ⟨hc1, hf1⟩ := bcell hb1
    have z0 : w.heap.size + 1 + 1 < w1.heap.size := by (have := hb1.size; simp at this; omega)
    have z1 : w.heap.size + 1 < w1.heap.size := by omega
    have z2 : w.heap.size < w1.heap.size := by omega
    have b1 := Lib.hid (ext_trans (ext_alloc (ext_alloc (ext_alloc (ext_refl w) _) _) _) hb1)
    clear hb1
    go_wp2_with fail
    refine (HT.out _ ((H.out.ext b1.out (Nat.le_refl _)).more (by omega))).mono ?_
    rintro e w2 ⟨rfl, hb2⟩
    obtain ⟨hc2, hf2⟩ := bcell hb2
    have y0 : w.heap.size + 1 + 1 < w2.heap.size := by (have := hb2.size; omega)
    have b2 := Lib.hid (ext_trans b1.out hb2)
    clear hb2
    go_wp2
    refine bodyPost_ret (v := .tuple #[schV 0 none 0 0 0 0, .bool false]) (by simp [results, Try.results44, go_sem, *]) rfl ?_
    refine ⟨rfl, ?_⟩
    repeat (first | (with_reducible exact b2.out) | (with_reducible refine ext_set ?_ (by simp <;> omega) _))
  · have HM := Lib.hid (fun (w : World) h => l25Make_any day pa le k id v A n c l w hnc hA h hs hk)
    rw [hk] at HT
    obtain ⟨O, hO⟩ : ∃ O, stepS day pa le l k id v = O := ⟨_, rfl⟩
    rw [hO] at HM ⊢
    clear hs hO hk
    go_enter Try.func44, Try.ntmps44
    go_wp2_with fail
    refine (HI.out _ ((H.out.ext (ext_alloc (ext_alloc (ext_alloc (ext_refl _) _) _) _) (Nat.le_refl _)).more (by simp; omega))).mono ?_
    rintro e w1 ⟨rfl, hb1⟩
    obtain ⟨hc1, hf1⟩ := bcell hb1
    have z0 : w.heap.size + 1 + 1 < w1.heap.size := by (have := hb1.size; simp at this; omega)
    have z1 : w.heap.size + 1 < w1.heap.size := by omega
    have z2 : w.heap.size < w1.heap.size := by omega
    have b1 := Lib.hid (ext_trans (ext_alloc (ext_alloc (ext_alloc (ext_refl w) _) _) _) hb1)
    clear hb1
    go_wp2_with fail
    refine (HT.out _ ((H.out.ext b1.out (Nat.le_refl _)).more (by omega))).mono ?_
    rintro e w2 ⟨rfl, hb2⟩
    obtain ⟨hc2, hf2⟩ := bcell hb2
    have y0 : w.heap.size + 1 + 1 < w2.heap.size := by (have := hb2.size; omega)
    have y1 : w.heap.size + 1 < w2.heap.size := by omega
    have y2 : w.heap.size < w2.heap.size := by omega
    have b2 := Lib.hid (ext_trans b1.out hb2)
    clear hb2
    go_wp2_with fail
    refine (HM.out _ ((H.out.ext b2.out (Nat.le_refl _)).more (by omega))).mono ?_
    rintro e w3 ⟨A3, c3, D, P, Q, L, rfl, ho3, hx3, hb3⟩
    obtain ⟨hc3, hf3⟩ := bcell hb3
    have x0 : w.heap.size + 1 + 1 < w3.heap.size := by (have := hb3.size; omega)
    have b3 := Lib.hid (ext_trans b2.out hb3)
    have O3 := Lib.hid ho3
    have HX3 := Lib.hid hx3
    clear hb3 ho3 hx3
    rcases O with _ | ⟨D', L', P', Q'⟩
    · have hsome : (none : Option Sch4).isSome = false := rfl
      go_wp2
      refine bodyPost_ret (v := .tuple #[schV 0 none 0 0 0 0, .bool false]) (by simp [results, Try.results44, go_sem, *]) rfl ?_
      refine ⟨rfl, ?_⟩
      repeat (first | (with_reducible exact b3.out) | (with_reducible refine ext_set ?_ (by simp <;> omega) _) | (with_reducible refine ext_alloc ?_ _))
    · have he := HX3.out _ rfl
      injection he with h1 he
      injection he with h2 he
      injection he with h3 h4
      subst h1 h2 h3 h4
      clear HX3
      go_wp2
      refine bodyPost_ret (v := .tuple #[schV D' A3 L'.length c3 P' Q', .bool true]) (by simp [results, Try.results44, go_sem, *]) rfl ?_
      refine ⟨A3, c3, rfl, own_base (base := w2.heap.size) ?_ (by omega), ?_⟩
      · repeat (first | (with_reducible exact O3.out) | (with_reducible refine own_set ?_ (by show w.heap.size + 1 + 1 < w2.heap.size; omega) _) | (with_reducible refine World.ownsRow.alloc ?_ _))
      · repeat (first | (with_reducible exact b3.out) | (with_reducible refine ext_set ?_ (by simp <;> omega) _) | (with_reducible refine ext_alloc ?_ _))
end Go.Proofs.Ytclihlihaigddaa
