
import Derived.Test.YtkgeiemelhkkcaaB
namespace Go.Proofs.Ytkgeiemelhkkcaa
open Go.RowKit
set_option linter.unusedVariables false
set_option linter.unusedSimpArgs false
theorem szTermRowS_any (A : Option Addr) (n c : Nat) (left : Int) (w : World) (hn : n ≤ 9223372036854775807) (h0 : 0 ≤ left) (h1 : left ≤ 1048576) :
    Calls Try.prog 18 #[.slice A n c, .int .i64 left] w fun e w' => e = .returned (.int .i64 (if left < n then -1 else left - n)) ∧ w = w' := by
  by_cases h : left < n
  · have h2 : left - (n : Int) < 0 := by omega
    go_enter Try.func18, Try.ntmps18
    go_wp2
    go_ret
    exact ⟨rfl, rfl⟩
  · have h2 : ¬ left - (n : Int) < 0 := by omega
    go_enter Try.func18, Try.ntmps18
    go_wp2
    go_ret
    exact ⟨rfl, rfl⟩
theorem info_row : (Try.prog.info? 25).map (fun i => (i.zero, i.size, i.bytes)) = some (some (.agg #[.int .i64 0, .int .i64 0, .int .i64 0, .int .i64 0, .int .i64 0]), 5, 40) := by kernel_rfl
set_option maxHeartbeats 400000 in
theorem toTermRowS_any (A : Option Addr) (n c : Nat) (l : List R5) (w : World) (hn : n ≤ 1048576) (h : Reads w w.heap.size 5 A n (rowsV l)) :
    Calls Try.prog 20 #[.slice A n c] w (RetSlice w 25 5 n (rowsV l)) := by
  have hl := rows_len h
  have H := Lib.hid h
  have HL := Lib.hid hl
  clear h hl
  obtain ⟨i0, hi, hz0, hz1, hz2⟩ := info_parts info_row
  go_enter Try.func20, Try.ntmps20
  go_wp2_with (at_make; refine wpList_make_full _ rfl _ _ 31 rfl w.heap.size 25 i0 _ 5 Try.underlying31 hi hz0 hz1 .i64 .i64 _ _ n rfl rfl rfl rfl (by rw [hz2]; omega) (by unfold maxLen; omega) (Nat.le_refl _) ?_; intro w0 hown0 hgrow0)
  have hb0 : Below w.heap.size w w0 := (ext_refl w).grown hgrow0 (Nat.le_refl _) (fun _ h => by cases h)
  have hfill0 : Fill w0 w.heap.size 25 (n * 5) 0 (rowsV l) := Fill.start (c := 0) hown0
  clear hown0 hgrow0
  go_loopw [4] (fun i wr => ∃ k : Nat, k ≤ n ∧ i = .int .i64 k ∧ Below w.heap.size w wr ∧ Fill wr w.heap.size 25 (n * 5) (k * 5) (rowsV l)) (fun i _ => n - (intOf i).toNat)
  case atStart => exact ⟨0, Nat.zero_le _, rfl, hb0, by simpa using hfill0⟩
  case round =>
    obtain ⟨k, hk, rfl, hbl, hfill⟩ := hrel
    by_cases hlt : k < n
    · obtain ⟨r, hr⟩ := list_split (l := l) (k := k) (by rw [HL.out]; exact hlt)
      obtain ⟨b, o, rfl, hb, c0, c1, c2, c3, c4⟩ := rows_at (H.out.ext hbl (Nat.le_refl _)) hr
      have hG := hfill.lt
      obtain ⟨u0, g0⟩ := hfill.cell (j := k * 5) (by omega) ; obtain ⟨u1, g1⟩ := hfill.cell (j := k * 5 + 1) (by omega) ; obtain ⟨u2, g2⟩ := hfill.cell (j := k * 5 + 2) (by omega) ; obtain ⟨u3, g3⟩ := hfill.cell (j := k * 5 + 3) (by omega) ; obtain ⟨u4, g4⟩ := hfill.cell (j := k * 5 + 4) (by omega)
      have f0 := hfill.frozen (k * 5) ; have f1 := hfill.frozen (k * 5 + 1) ; have f2 := hfill.frozen (k * 5 + 2) ; have f3 := hfill.frozen (k * 5 + 3) ; have f4 := hfill.frozen (k * 5 + 4)
      have hr := Lib.hid hr
      go_wp2_with (first | (go_at_call 16; refine (toTermRow_any r _).mono ?_; rintro e w' ⟨rfl, hb⟩; obtain ⟨hc, hf⟩ := bcell hb; have hz := hb.size; (try simp at hz)))
      go_roundw
      case rel =>
        obtain ⟨x0, x1, x2, x3, x4⟩ := rowsV_get hr.out
        refine ⟨k + 1, by omega, by go_num, ?_, ?_⟩
        · exact below_set5 (ext_trans hbl hb) (Nat.le_refl _)
        · have hs := (hfill.ext hb).step5 (by omega) x0 x1 x2 x3 x4
          rw [show (k + 1) * 5 = k * 5 + 5 from by omega]
          exact hs
      case measure => simp [intOf]; omega
    · obtain rfl : k = n := by omega
      go_wp2
      go_ret
      exact ⟨_, _, rfl, hfill.done (Nat.le_refl _) (by unfold maxLen; omega) (by rw [rowsV_len, HL.out]), hbl⟩
end Go.Proofs.Ytkgeiemelhkkcaa
