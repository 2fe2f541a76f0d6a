/- The program's reply, whole. -/
import Derived.Test.YtkcbgiegoadkbaaGreatVRp0
import Derived.Test.YtkcbgiegoadkbaaGreatVRp1
import Derived.Test.YtkcbgiegoadkbaaGreatVRp2
import Derived.Test.YtkcbgiegoadkbaaGreatVRp3
import Derived.Test.YtkcbgiegoadkbaaGreatVRpW
import Derived.Test.YtkcbgiegoadkbaaGreatVM8
namespace Go.Proofs.YtkcbgiegoadkbaaGreat
open Go.RowKit
set_option linter.unusedVariables false
set_option linter.unusedSimpArgs false
theorem parO_le {s : ByteArray} {v : Int} (h : parO s = some v) : -999999 ≤ v ∧ v ≤ 999999 := by
 unfold parO at h
 rcases hn : numO (parT (bl s)) with _ | n
 · rw [hn] at h; cases h
 · rw [hn] at h
   simp only at h
   split at h
   · cases h
   · rename_i hc
     injection h with h
     split at h <;> omega
theorem numsO_le : ∀ (ws : List (List UInt8)) (vs : List Int), numsO ws = some vs → ∀ v ∈ vs, -999999 ≤ v ∧ v ≤ 999999 := by
 intro ws vs h v hv
 obtain ⟨h1, h2⟩ := numsO_some ws vs h
 obtain ⟨i, hi⟩ := List.mem_iff_getElem?.1 hv
 have hil := (List.getElem?_eq_some_iff.1 hi).1
 obtain ⟨x, hx⟩ := list_split (l := ws) (k := i) (by omega)
 obtain ⟨u, hu, hp⟩ := h2 i x hx
 rw [hi] at hu
 injection hu with hu
 rw [hu]
 exact parO_le hp
theorem reply_any (day pa le : Int) (A : Option Addr) (n c : Nat) (l : List R5) (line : ByteArray) (w : World) (hA : SlOk A n c) (h : Reads w w.heap.size 5 A n (rowsV l)) (hs : schB day l pa le = true) (hline : line.size ≤ 16000) :
 Calls Tryz.prog 34 #[schV day A n c pa le, .string line] w (RetRep A n c l (repO (day, l, pa, le) line) w) := by
 have hn : n ≤ 8 := by have := schB_len hs; have := rows_len h; omega
 have hday := schB_day hs
 obtain ⟨x0, hx0⟩ : ∃ x0, (splitL 32 (bl line))[0]? = some x0 := ⟨_, splitL_head 32 (bl line)⟩
 have hhd : (splitL 32 (bl line)).headD [] = x0 := by
  rcases hp : splitL 32 (bl line) with _ | ⟨y, t⟩
  · rw [hp] at hx0; cases hx0
  · rw [hp] at hx0; simpa using hx0
 unfold repO
 rw [hhd]
 rcases hvs : numsO ((splitL 32 (bl line)).drop 1) with _ | vs
 · exact reply_bad day pa le A n c l line w hn hA h hs hline hday _ x0 _ rfl hx0 rfl hvs
 have hle := numsO_le _ _ hvs
 rcases vs with _ | ⟨i1, _ | ⟨i2, _ | ⟨i3, vs⟩⟩⟩
 · show Calls Tryz.prog 34 #[schV day A n c pa le, .string line] w (RetRep A n c l (rep0 (day, l, pa, le) (str x0)) w)
   by_cases h0 : str x0 = ⟨#[100, 97, 121]⟩
   · have := reply_day day pa le A n c l line w hn hA h hs hline hday _ x0 _ [] rfl hx0 rfl hvs rfl h0
     unfold rep0; rw [if_pos h0]; exact this
   by_cases h1 : str x0 = ⟨#[114, 101, 97, 100, 121]⟩
   · have := reply_ready day pa le A n c l line w hn hA h hs hline hday _ x0 _ [] rfl hx0 rfl hvs rfl h1
     unfold rep0; rw [if_neg h0, if_pos h1]; exact this
   by_cases h2 : str x0 = ⟨#[117, 110, 112, 97, 105, 100]⟩
   · have := reply_unpaid day pa le A n c l line w hn hA h hs hline hday _ x0 _ [] rfl hx0 rfl hvs rfl h2
     unfold rep0; rw [if_neg h0, if_neg h1, if_pos h2]; exact this
   have := reply_0n day pa le A n c l line w hn hA h hs hline hday _ x0 _ [] rfl hx0 rfl hvs rfl h0 h1 h2
   unfold rep0; rw [if_neg h0, if_neg h1, if_neg h2]; exact this
 · show Calls Tryz.prog 34 #[schV day A n c pa le, .string line] w (RetRep A n c l (rep1 (day, l, pa, le) (str x0) i1) w)
   have hi1 := hle i1 (by simp)
   by_cases h0 : str x0 = ⟨#[119, 97, 105, 116]⟩
   · exact reply_wait day pa le A n c l line w hn hA h hs hline hday _ x0 _ [i1] rfl hx0 rfl hvs i1 rfl (by omega) h0
   by_cases h1 : str x0 = ⟨#[108, 101, 97, 118, 101]⟩
   · exact reply_leave day pa le A n c l line w hn hA h hs hline hday _ x0 _ [i1] rfl hx0 rfl hvs i1 rfl (by omega) h1
   by_cases h2 : str x0 = ⟨#[109, 105, 115, 115, 105, 110, 103]⟩
   · exact reply_missing day pa le A n c l line w hn hA h hs hline hday _ x0 _ [i1] rfl hx0 rfl hvs i1 rfl h2
   by_cases h3 : str x0 = ⟨#[116, 101, 120, 116]⟩
   · exact reply_text day pa le A n c l line w hn hA h hs hline hday _ x0 _ [i1] rfl hx0 rfl hvs i1 rfl h3
   have := reply_1n day pa le A n c l line w hn hA h hs hline hday _ x0 _ [i1] rfl hx0 rfl hvs i1 rfl h0 h1 h2 h3
   unfold rep1; rw [if_neg h0, if_neg h1, if_neg h2, if_neg h3]; exact this
 · show Calls Tryz.prog 34 #[schV day A n c pa le, .string line] w (RetRep A n c l (rep2 (day, l, pa, le) (str x0) i1 i2) w)
   have hi2 := hle i2 (by simp)
   by_cases hk : 0 < kindB (str x0)
   · exact reply_2 day pa le A n c l line w hn hA h hs hline hday _ x0 _ [i1, i2] rfl hx0 rfl hvs i1 i2 rfl (by omega) hk
   · have hk0 : kindB (str x0) = 0 := by rcases kind_cases (str x0) with h | h | h | h | h <;> omega
     have := reply_2n day pa le A n c l line w hn hA h hs hline hday _ x0 _ [i1, i2] rfl hx0 rfl hvs i1 i2 rfl hk0
     unfold rep2; rw [if_neg hk]; exact this
 · exact reply_3 day pa le A n c l line w hn hA h hs hline hday _ x0 _ (i1 :: i2 :: i3 :: vs) rfl hx0 rfl hvs (by simp)
end Go.Proofs.YtkcbgiegoadkbaaGreat
