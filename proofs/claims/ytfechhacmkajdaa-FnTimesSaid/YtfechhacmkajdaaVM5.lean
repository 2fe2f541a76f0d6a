/- A digit taken: the reference's. -/
import Derived.Test.YtfechhacmkajdaaVFrL
import Derived.Test.YtfechhacmkajdaaVM4
import Derived.Test.YtfechhacmkajdaaVM2
namespace Go.Proofs.Ytfechhacmkajdaa
open Go.RowKit
set_option linter.unusedVariables false
set_option linter.unusedSimpArgs false
end Go.Proofs.Ytfechhacmkajdaa
namespace Go.Proofs.Ytfechhacmkajdaa
open Go.RowKit
set_option linter.unusedVariables false
set_option linter.unusedSimpArgs false
def kindsM (u lo : Int) (l : List R2) (m : Int) : List Int := if addNok u lo l m = true then cntN l.length m ⟨dsOf l, [], 0⟩ l.length else []
theorem cnt_more {n k : Nat} {m : Int} {s : WS} {x : Int} (hx : (addN n m s k).ds[k]? = some x) (h : 0 < dg n m k) : cntN n m s (k + 1) = (cntN n m s k).set (kindO x (dg n m k)) ((cntN n m s k).getD (kindO x (dg n m k)) 0 + 1) := by
 rw [cntN, if_pos h, List.getD_eq_getElem?_getD (l := (addN n m s k).ds), hx]
 rfl
theorem cnt_same {n k : Nat} {m : Int} {s : WS} (h : ¬ 0 < dg n m k) : cntN n m s (k + 1) = cntN n m s k := by rw [cntN, if_neg h]
theorem add_same {n k : Nat} {m : Int} {s : WS} (h : ¬ 0 < dg n m k) : addN n m s (k + 1) = addN n m s k := by rw [addN, addS_none _ h]
theorem cntN_zero (n : Nat) (m : Int) (s : WS) : cntN n m s 0 = List.replicate 4 0 := rfl
theorem cnt_at {n k : Nat} {m : Int} {s : WS} (v d : Int) : ∃ y : Int, (cntN n m s k)[kindO v d]? = some y ∧ (cntN n m s k).getD (kindO v d) 0 = y ∧ 0 ≤ y ∧ y ≤ k := by
 obtain ⟨y, hy⟩ := list_split (l := cntN n m s k) (k := kindO v d) (by rw [cntN_len]; exact kindO_lt v d)
 have hb := cntN_le n m s k y (List.mem_of_getElem? hy)
 exact ⟨y, hy, by rw [List.getD_eq_getElem?_getD, hy]; rfl, hb⟩
/-- a row of another type is written: the worker stays -/
theorem Wk.setRow {w : World} {B g : Nat} {u lo : Int} {s : WS} (h : Wk w B g u lo s) {B2 E size n c G : Nat} {xs : List Value} (hr : w.ownsRow B2 E size (.slice (some ⟨G, 0, none⟩) n c) n xs) (h1 : E ≠ 62) (h2 : E ≠ 54) (h3 : E ≠ 93) (i : Nat) (z : Value) : Wk (w.setCell ⟨G, i, none⟩ z) B g u lo s := by
 obtain ⟨h, c, c', A, k1, k2, k3, k4⟩ := h
 have n1 : G ≠ g := fun e => own_nbT hr k1 (fun ee => h1 ee.symm) (by rw [e]; rfl)
 have n3 : Value.ownBlock (.slice (some ⟨h, 0, none⟩) s.ds.length c) ≠ some G := by
  rcases own_neT k3 hr (fun ee => h2 ee.symm) with hd | hd
  · rw [hd]; simp
  · exact hd
 have n4 : Value.ownBlock (.slice A s.ms.length c') ≠ some G := by
  rcases own_neT k4 hr (fun ee => h3 ee.symm) with hd | hd
  · rw [hd]; simp
  · exact hd
 exact ⟨h, c, c', A, k1.setF (p := ⟨G, i, none⟩) n1 z, k2, own_setF (p := ⟨G, i, none⟩) k3 n3 z, own_setF (p := ⟨G, i, none⟩) k4 n4 z⟩
end Go.Proofs.Ytfechhacmkajdaa
