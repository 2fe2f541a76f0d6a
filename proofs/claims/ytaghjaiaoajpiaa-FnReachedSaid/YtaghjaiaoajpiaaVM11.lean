/- The reference's search. -/
import Derived.Deep.CutBlock
import Derived.Test.YtaghjaiaoajpiaaVRcC
import Derived.Test.YtaghjaiaoajpiaaVM9
namespace Go.Proofs.Ytaghjaiaoajpiaa
open Go.RowKit
set_option linter.unusedVariables false
set_option linter.unusedSimpArgs false
set_option maxRecDepth 100000 in
set_option maxHeartbeats 8000000 in
theorem l13Parts_any (r : R2) (x y : Int) (w : World) :
 Calls Try.prog 60 #[.agg #[.int .i64 r.a, .int .i64 r.b], .agg #[.int .i64 x, .int .i64 y]] w (RetV (.int .i64 (pts r x y)) w) := by
 obtain ⟨W1, hW1⟩ : ∃ y9 : World, y9 = (w.alloc (.cells #[.int .i64 r.a, .int .i64 r.b] 42)).alloc (.cells #[.int .i64 x, .int .i64 y] 42) := ⟨_, rfl⟩
 have BA := Lib.hid (show Blk W1 w.heap.size 42 #[.int .i64 r.a, .int .i64 r.b] by rw [hW1]; exact (Blk.born w _ 42 rfl).al _)
 have BB := Lib.hid (show Blk W1 (w.heap.size + 1) 42 #[.int .i64 x, .int .i64 y] by rw [hW1]; exact Blk.born (w.alloc _) _ 42 (by simp))
 have hb := Lib.hid (show Below w.heap.size w W1 by rw [hW1]; exact ext_alloc (ext_alloc (ext_refl w) _) _)
 obtain ⟨PT, hPT⟩ : ∃ z, pts r x y = z := ⟨_, rfl⟩
 rw [hPT]
 have HPT := Lib.hid hPT
 clear hPT
 go_enter Try.func60, Try.ntmps60
 go_upto_region 1 with fail
 rw [← hW1]
 clear hW1
 obtain ⟨a0, a1⟩ := BA.out.q2
 obtain ⟨b0, b1⟩ := BB.out.q2
 have lA := BA.out.lt
 have lB := BB.out.lt
 go_wp2
 go_loopw [5, 6] (fun nv kv wr => ∃ (k : Int) (Z : Int), (0 ≤ k ∧ k ≤ 2) ∧ kv = .int .i64 k ∧ nv = .int .i64 Z ∧ Hid ((k = 0 → Z = 0) ∧ (k = 1 → Z = if r.a = x then 0 else 1) ∧ (k = 2 → Z = pts r x y)) ∧ Hid (Blk wr w.heap.size 42 #[.int .i64 r.a, .int .i64 r.b]) ∧ Hid (Blk wr (w.heap.size + 1) 42 #[.int .i64 x, .int .i64 y]) ∧ Hid (Below w.heap.size w wr)) (fun _ kv _ => 2 - (intOf kv).toNat)
 case atStart => exact ⟨0, 0, by omega, rfl, rfl, Lib.hid ⟨fun _ => rfl, fun h => absurd h (by decide), fun h => absurd h (by decide)⟩, BA, BB, hb⟩
 case round =>
  clear a0 a1 b0 b1 lA lB BA BB hb
  obtain ⟨k, Z, hk, rfl, rfl, HZ, BA, BB, hb⟩ := hrel
  obtain ⟨a0, a1⟩ := BA.out.q2
  obtain ⟨b0, b1⟩ := BB.out.q2
  have lA := BA.out.lt
  have lB := BB.out.lt
  rcases (show k = 0 ∨ k = 1 ∨ k = 2 by omega) with rfl | rfl | rfl
  · obtain rfl := HZ.out.1 rfl
    clear HZ
    by_cases he : r.a = x
    · have ke : (r.a == x) = true := by simpa using he
      have kn : (r.a != x) = false := by rw [bne, ke]; rfl
      go_upto_region 5 with fail
      go_region
      all_goals
       go_wp2
       go_roundw
       case rel => exact ⟨1, 0, by omega, rfl, rfl, Lib.hid ⟨(fun h => absurd h (by decide)), (fun _ => by rw [if_pos he]), (fun h => absurd h (by decide))⟩, Lib.hid (BA.out.ext (ext_drew (ext_refl _))), Lib.hid (BB.out.ext (ext_drew (ext_refl _))), Lib.hid (ext_drew hb.out)⟩
       case measure => simp [intOf]
    · have ke : (r.a == x) = false := by simpa using he
      have kn : (r.a != x) = true := by rw [bne, ke]; rfl
      go_upto_region 5 with fail
      go_region
      all_goals
       go_wp2
       go_roundw
       case rel => exact ⟨1, 1, by omega, rfl, rfl, Lib.hid ⟨(fun h => absurd h (by decide)), (fun _ => by rw [if_neg he]), (fun h => absurd h (by decide))⟩, Lib.hid (BA.out.ext (ext_drew (ext_refl _))), Lib.hid (BB.out.ext (ext_drew (ext_refl _))), Lib.hid (ext_drew hb.out)⟩
       case measure => simp [intOf]
  · have hZ := HZ.out.2.1 rfl
    clear HZ
    by_cases hq : r.a = x
    · rw [if_pos hq] at hZ
      subst hZ
      have HQ := Lib.hid hq
      by_cases he : r.b = y
      · have ke : (r.b == y) = true := by simpa using he
        have kn : (r.b != y) = false := by rw [bne, ke]; rfl
        go_upto_region 5 with fail
        go_region
        all_goals
         go_wp2
         go_roundw
         case rel => exact ⟨2, 0, by omega, rfl, rfl, Lib.hid ⟨(fun h => absurd h (by decide)), (fun h => absurd h (by decide)), (fun _ => by unfold pts; rw [if_pos hq, if_pos he]; rfl)⟩, Lib.hid (BA.out.ext (ext_drew (ext_refl _))), Lib.hid (BB.out.ext (ext_drew (ext_refl _))), Lib.hid (ext_drew hb.out)⟩
         case measure => simp [intOf]
      · have ke : (r.b == y) = false := by simpa using he
        have kn : (r.b != y) = true := by rw [bne, ke]; rfl
        go_upto_region 5 with fail
        go_region
        all_goals
         go_wp2
         go_roundw
         case rel => exact ⟨2, 1, by omega, rfl, rfl, Lib.hid ⟨(fun h => absurd h (by decide)), (fun h => absurd h (by decide)), (fun _ => by unfold pts; rw [if_pos hq, if_neg he]; rfl)⟩, Lib.hid (BA.out.ext (ext_drew (ext_refl _))), Lib.hid (BB.out.ext (ext_drew (ext_refl _))), Lib.hid (ext_drew hb.out)⟩
         case measure => simp [intOf]
    · rw [if_neg hq] at hZ
      subst hZ
      by_cases he : r.b = y
      · have ke : (r.b == y) = true := by simpa using he
        have kn : (r.b != y) = false := by rw [bne, ke]; rfl
        go_upto_region 5 with fail
        go_region
        all_goals
         go_wp2
         go_roundw
         case rel => exact ⟨2, 1, by omega, rfl, rfl, Lib.hid ⟨(fun h => absurd h (by decide)), (fun h => absurd h (by decide)), (fun _ => by unfold pts; rw [if_neg hq, if_pos he]; rfl)⟩, Lib.hid (BA.out.ext (ext_drew (ext_refl _))), Lib.hid (BB.out.ext (ext_drew (ext_refl _))), Lib.hid (ext_drew hb.out)⟩
         case measure => simp [intOf]
      · have ke : (r.b == y) = false := by simpa using he
        have kn : (r.b != y) = true := by rw [bne, ke]; rfl
        go_upto_region 5 with fail
        go_region
        all_goals
         go_wp2
         go_roundw
         case rel => exact ⟨2, 2, by omega, rfl, rfl, Lib.hid ⟨(fun h => absurd h (by decide)), (fun h => absurd h (by decide)), (fun _ => by unfold pts; rw [if_neg hq, if_neg he]; rfl)⟩, Lib.hid (BA.out.ext (ext_drew (ext_refl _))), Lib.hid (BB.out.ext (ext_drew (ext_refl _))), Lib.hid (ext_drew hb.out)⟩
         case measure => simp [intOf]
  · obtain rfl : Z = PT := (HZ.out.2.2 rfl).trans HPT.out
    go_wp2
    go_ret
    exact ⟨rfl, hb.out⟩

def OKL (l : List Int) : Prop := Asc l ∧ ∀ x ∈ l, 0 ≤ x ∧ x ≤ 300
theorem OKL.nil : OKL [] := ⟨List.Pairwise.nil, fun _ h => by cases h⟩
theorem OKL.ins {l : List Int} {n : Int} (h : OKL l) (hn : 0 ≤ n ∧ n ≤ 300) : OKL (insN l n) := ⟨insN_asc _ _ h.1, fun x hx => by
 rcases (insN_mem l n x).1 hx with rfl | hx
 · exact hn
 · exact h.2 x hx⟩
theorem OKL.len {l : List Int} (h : OKL l) : l.length ≤ 301 := asc_len 301 l h.1 fun x hx => by have := h.2 x hx; omega
theorem insN_pos (l : List Int) (n : Int) : 0 < (insN l n).length := List.length_pos_of_mem ((insN_mem l n n).2 (.inl rfl))
theorem pts_le (r : R2) (x y : Int) : pts r x y ≤ 2 := by unfold pts; split <;> split <;> omega
end Go.Proofs.Ytaghjaiaoajpiaa
