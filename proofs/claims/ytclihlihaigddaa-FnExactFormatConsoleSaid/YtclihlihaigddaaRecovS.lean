/- The reference's l27Open, walked. -/
import Derived.Test.YtclihlihaigddaaRecov
import Derived.Test.YtclihlihaigddaaLawAid
namespace Go.Proofs.Ytclihlihaigddaa
open Go.RowKit
set_option linter.unusedVariables false
set_option linter.unusedSimpArgs false
abbrev CR := ByteArray × ByteArray
def recCells (r : CR) : List Value := [.string r.1, .string r.2]
def recsV (l : List CR) : List Value := l.flatMap recCells
theorem recsV_len (l : List CR) : (recsV l).length = l.length * 2 := flat_len recCells 2 (fun _ => rfl) l
theorem recsV_snoc (l : List CR) (r : CR) : recsV (l ++ [r]) = recsV l ++ [.string r.1, .string r.2] := by simp [recsV, recCells]
theorem info_rec : (Try.prog.info? 66).map (fun i => (i.zero, i.size, i.bytes)) = some (some (.agg #[.string ⟨#[]⟩, .string ⟨#[]⟩]), 2, 32) := by kernel_rfl
def SplitRet2 (w : World) (s : ByteArray) (b : UInt8) (e : Ending) (w' : World) : Prop :=
  ∃ g c, e = .returned (.slice (some ⟨g, 0, none⟩) (oneB s b) c) ∧ w'.cell? ⟨g, 0, none⟩ = some (.string (cutB s b)) ∧ w.heap.size ≤ g ∧ 1 ≤ oneB s b ∧ oneB s b ≤ s.size + 1 ∧ Below w.heap.size w w'
theorem l1Split_ret2 (s : ByteArray) (b : UInt8) (w : World) (hs : s.size ≤ 16777216) : Calls Try.prog 98 #[.string s, .int .u8 (b.toNat : Int)] w (SplitRet2 w s b) := by
  refine (l1Split_any s b w hs).mono ?_
  rintro e w' ⟨A, c, rfl, hown, hb⟩
  have hpos : 1 ≤ (splitL b (bl s)).length := by rw [splitL_len]; omega
  obtain ⟨g, cap, hv, hbg, hglt⟩ := hown.form (by omega)
  injection hv with hA _ hcap
  subst hA hcap
  refine ⟨g, c, rfl, ?_, hbg, hpos, splitL_size s b, hb⟩
  rw [hown.cellAt 0 (by omega)]
  simp [strsV, splitL_head, cutB]
/-- a slice of records and a number -/
def RetOpen (w : World) (l : List CR) (z : Nat) (e : Ending) (w' : World) : Prop :=
  ∃ A c, e = .returned (.tuple #[.slice A l.length c, .int .i64 z]) ∧ w'.ownsRow w.heap.size 66 2 (.slice A l.length c) l.length (recsV l) ∧ Below w.heap.size w w'
theorem recF_yes {s : ByteArray} {f a k : Nat} (h : stepB s a k = true) : recF s (f + 1) a k = ((dC k (ln s a), dR k (ln s a)) :: (recF s f (lnEnd s a + 1) (k + 1)).1, (recF s f (lnEnd s a + 1) (k + 1)).2) := by simp [recF, h]
theorem recF_no {s : ByteArray} {f a k : Nat} (h : stepB s a k = false) : recF s f a k = ([], a) := by cases f <;> simp [recF, h]
/-- where the loop stands: what is read, and what is left to read -/
def Stand (s : ByteArray) (k a : Nat) (L : List CR) : Prop := k ≤ 60 ∧ a ≤ s.size ∧ L.length = k ∧ L ++ (recF s (60 - k) a k).1 = recL s ∧ (recF s (60 - k) a k).2 = recE s
theorem stand_start (s : ByteArray) : Stand s 0 0 [] := ⟨by omega, Nat.zero_le _, rfl, rfl, rfl⟩
theorem stand_next {s : ByteArray} {k a : Nat} {L : List CR} (h : Stand s k a L) (hk : k < 60) (hs : stepB s a k = true) : Stand s (k + 1) (lnEnd s a + 1) (L ++ [(dC k (ln s a), dR k (ln s a))]) := by
  obtain ⟨h1, h2, h3, h4, h5⟩ := h
  obtain ⟨f, hf⟩ : ∃ f, 60 - k = f + 1 := ⟨59 - k, by omega⟩
  rw [hf, recF_yes hs] at h4 h5
  have he : lnEnd s a < s.size := by simp only [stepB, Bool.and_eq_true, decide_eq_true_eq] at hs; exact hs.1
  refine ⟨by omega, by omega, by simp [h3], ?_, ?_⟩
  · rw [show 60 - (k + 1) = f from by omega, ← h4]; simp
  · rw [show 60 - (k + 1) = f from by omega]; exact h5
theorem stand_end {s : ByteArray} {k a : Nat} {L : List CR} (h : Stand s k a L) (hs : stepB s a k = false ∨ k = 60) : L = recL s ∧ a = recE s := by
  obtain ⟨h1, h2, h3, h4, h5⟩ := h
  rcases hs with hs | rfl
  · rw [recF_no hs] at h4 h5
    exact ⟨by simpa using h4, h5⟩
  · exact ⟨by simpa [recF] using h4, by simpa [recF] using h5⟩
end Go.Proofs.Ytclihlihaigddaa
