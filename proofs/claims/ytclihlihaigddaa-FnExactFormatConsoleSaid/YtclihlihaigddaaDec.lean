/- Reading one line of a log as a record. -/
import Derived.Test.YtclihlihaigddaaEnc
namespace Go.Proofs.Ytclihlihaigddaa
open Go.RowKit
set_option linter.unusedVariables false
set_option linter.unusedSimpArgs false
def cutB (s : ByteArray) (b : UInt8) : ByteArray := str ((bl s).takeWhile (· != b))
theorem cutB_size (s : ByteArray) (b : UInt8) : (cutB s b).size ≤ s.size := by
  rw [← bl_size, ← bl_size, cutB, bl_str]
  exact (List.takeWhile_sublist _).length_le
/-- split hands back the piece ahead of the first such byte as its first -/
def SplitRet (w : World) (s : ByteArray) (b : UInt8) (e : Ending) (w' : World) : Prop :=
  ∃ g c, e = .returned (.slice (some ⟨g, 0, none⟩) (oneB s b) c) ∧ w'.cell? ⟨g, 0, none⟩ = some (.string (cutB s b)) ∧ 1 ≤ oneB s b ∧ oneB s b ≤ s.size + 1 ∧ Below w.heap.size w w'
theorem splitRet_of {w : World} {s : ByteArray} {b : UInt8} {e : Ending} {w' : World} (h : RetSlice w 9 1 (splitL b (bl s)).length (strsV (splitL b (bl s))) e w') : SplitRet w s b e w' := by
  obtain ⟨A, c, rfl, hown, hb⟩ := h
  have hpos : 1 ≤ (splitL b (bl s)).length := by rw [splitL_len]; omega
  obtain ⟨g, cap, hv, hbg, hglt⟩ := hown.form (by omega)
  injection hv with hA _ hcap
  subst hA hcap
  refine ⟨g, c, rfl, ?_, hpos, splitL_size s b, hb⟩
  rw [hown.cellAt 0 (by omega)]
  simp [strsV, splitL_head, cutB]
theorem split_ret (s : ByteArray) (b : UInt8) (w : World) (hs : s.size ≤ 16777216) : Calls Try.prog 99 #[.string s, .int .u8 (b.toNat : Int)] w (SplitRet w s b) :=
  (split_any s b w hs).mono fun _ _ h => splitRet_of h
theorem l1Split_ret (s : ByteArray) (b : UInt8) (w : World) (hs : s.size ≤ 16777216) : Calls Try.prog 98 #[.string s, .int .u8 (b.toNat : Int)] w (SplitRet w s b) :=
  (l1Split_any s b w hs).mono fun _ _ h => splitRet_of h
/-- the parts of a line -/
def dHead (k : Nat) : ByteArray := dec k ++ ⟨#[32]⟩
def dText (l : ByteArray) : ByteArray := cutB l 35
def dRest (k : Nat) (l : ByteArray) : ByteArray := (dText l).extract (dHead k).size (dText l).size
def dCmd (k : Nat) (l : ByteArray) : ByteArray := cutB (dRest k l) 64
def dRep (k : Nat) (l : ByteArray) : ByteArray := (dRest k l).extract ((dCmd k l).size + 1) (dRest k l).size
def dPre (k : Nat) (l : ByteArray) : Bool := decide ((dHead k).size ≤ (dText l).size) && decide ((dText l).extract 0 (dHead k).size = dHead k)
def dAt (k : Nat) (l : ByteArray) : Bool := dPre k l && decide ((dCmd k l).size ≠ (dRest k l).size)
def dOk (k : Nat) (l : ByteArray) : Bool := dAt k l && recB (dCmd k l) (dRep k l) && decide (lineB k (dCmd k l) (dRep k l) = l ++ ⟨#[10]⟩)
def dC (k : Nat) (l : ByteArray) : ByteArray := if dAt k l = true then dCmd k l else ⟨#[]⟩
def dR (k : Nat) (l : ByteArray) : ByteArray := if dAt k l = true then dRep k l else ⟨#[]⟩
theorem dHead_size (k : Nat) : (dHead k).size ≤ 21 ∧ 1 ≤ (dHead k).size := by
  have := dec_size k
  unfold dHead
  simp [ByteArray.size_append, lit_size]
  omega
theorem extract_size (s : ByteArray) (a b : Nat) (h : b ≤ s.size) : (s.extract a b).size = b - a := by
  rw [ByteArray.size_extract]; omega
theorem cut_lt {s : ByteArray} {b : UInt8} (h : (cutB s b).size ≠ s.size) : (cutB s b).size < s.size := by
  have := cutB_size s b; omega
theorem toList_eq_iff (a b : ByteArray) : (a.toList = b.toList) ↔ a = b := by
  rw [ByteArray.toList_eq, ByteArray.toList_eq]
  exact ⟨fun h => bl_inj h, fun h => by rw [h]⟩
end Go.Proofs.Ytclihlihaigddaa
