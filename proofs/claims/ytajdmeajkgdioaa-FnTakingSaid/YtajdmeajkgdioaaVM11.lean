/- Taking and carrying, plainly: the sums of the digits. -/
import Derived.Test.YtajdmeajkgdioaaVAdQ
import Derived.Test.YtajdmeajkgdioaaVM4
namespace Go.Proofs.Ytajdmeajkgdioaa
open Go.RowKit
set_option linter.unusedVariables false
set_option linter.unusedSimpArgs false
theorem ftkSum (u lo : Int) (l : List R2) (m : Int) : takeNok u lo l m = true → dsZ 10 (numR l) - dsZ 10 m + 9 * (takeNst l m).ask = dsZ 10 (numR l - m) ∧ 0 ≤ (takeNst l m).ask ∧ (takeNst l m).ask ≤ 64 := by
 intro h
 obtain ⟨hf, hs, hw, hl, hn, _, m0, m1⟩ := takeN_law h
 have h8 := (frB_head hf).2.2.2
 have hwd := dsOf_WF hf hs
 have hb := numD_bounds hwd
 rw [dsOf_len] at hb
 have hb : 0 ≤ numR l ∧ numR l < pw l.length := hb
 have e : l.length = (WS.ds ⟨dsOf l, [], 0⟩).length := (dsOf_len l).symm
 have hsum : (takeNst l m).ds.sum = (dsOf l).sum - dgS l.length m l.length + 9 * ((takeNst l m).ask - 0) := by
  have h9 := takeN_sum (s := ⟨dsOf l, [], 0⟩) hwd m0 (show m ≤ numD (dsOf l) from m1) _ (Nat.le_refl _)
  rw [← e] at h9
  exact h9
 rw [digs_sum h8 m0 (by omega)] at hsum
 have h1 := num_sum hw (by rw [hl]; exact h8)
 have h2 := num_sum hwd (by rw [dsOf_len]; exact h8)
 rw [hn] at h1
 have ha := takeN_ask l.length m ⟨dsOf l, [], 0⟩ l.length h8
 have ha : (0 : Int) ≤ (takeNst l m).ask ∧ (takeNst l m).ask ≤ 0 + 8 * (l.length : Int) := ha
 refine ⟨?_, ha.1, by omega⟩
 rw [h1, hsum]
 show dsZ 10 (numD (dsOf l)) - _ + _ = _
 rw [h2]
 omega
theorem fcaSum (u lo : Int) (l : List R2) (m : Int) : addNok u lo l m = true → dsZ 10 (numR l) + dsZ 10 m - 9 * (addNst l m).ask = dsZ 10 (numR l + m) ∧ 0 ≤ (addNst l m).ask ∧ (addNst l m).ask ≤ 64 := by
 intro h
 obtain ⟨hf, hs, hw, hl, hn, _, m0⟩ := addN_law h
 have h8 := (frB_head hf).2.2.2
 have hwd := dsOf_WF hf hs
 have hb := numD_bounds hwd
 rw [dsOf_len] at hb
 have hb : 0 ≤ numR l ∧ numR l < pw l.length := hb
 have hb2 := numD_bounds hw
 rw [hn, hl] at hb2
 have e : l.length = (WS.ds ⟨dsOf l, [], 0⟩).length := (dsOf_len l).symm
 have hsum : (addNst l m).ds.sum = (dsOf l).sum + dgS l.length m l.length - 9 * ((addNst l m).ask - 0) := by
  have h9 := addN_sum (s := ⟨dsOf l, [], 0⟩) (m := m) hwd m0 (by show numD (dsOf l) + m < pw (dsOf l).length; rw [dsOf_len]; exact hb2.2) _ (Nat.le_refl _)
  rw [← e] at h9
  exact h9
 rw [digs_sum h8 m0 (by omega)] at hsum
 have h1 := num_sum hw (by rw [hl]; exact h8)
 have h2 := num_sum hwd (by rw [dsOf_len]; exact h8)
 rw [hn] at h1
 have ha := addN_ask l.length m ⟨dsOf l, [], 0⟩ l.length h8
 have ha : (0 : Int) ≤ (addNst l m).ask ∧ (addNst l m).ask ≤ 0 + 8 * (l.length : Int) := ha
 refine ⟨?_, ha.1, by omega⟩
 rw [h1, hsum]
 show dsZ 10 (numD (dsOf l)) + _ - _ = _
 rw [h2]
 omega
end Go.Proofs.Ytajdmeajkgdioaa
