/- CrashLog: what is left of a log, plainly, and bytes made of a text and back. -/
import Derived.Test.YtdielldikdmjpaaLgX
import Derived.Test.YtdielldikdmjpaaTail
import Derived.Test.YtdielldikdmjpaaLawAid
import Derived.Lib.ConvBytes
import Derived.Laws.BytesArg
namespace Go.Proofs.Ytdielldikdmjpaa
open Go.RowKit
set_option linter.unusedVariables false
set_option linter.unusedSimpArgs false
def flipL (l : List UInt8) : List UInt8 := l.set (l.length - 1) (255 - l.getD (l.length - 1) 0)
theorem flipL_len (l : List UInt8) : (flipL l).length = l.length := by simp [flipL]
theorem flipL_append (a : List UInt8) {b : List UInt8} (h : 0 < b.length) : flipL (a ++ b) = a ++ flipL b := by
  unfold flipL
  have h1 : (a ++ b).length - 1 = a.length + (b.length - 1) := by simp; omega
  have h2 : (a ++ b).getD (a.length + (b.length - 1)) 0 = b.getD (b.length - 1) 0 := by
    simp only [List.getD]
    rw [List.getElem?_append_right (by omega), Nat.add_sub_cancel_left]
  rw [h1, h2, List.set_append_right _ _ (by omega), Nat.add_sub_cancel_left]
def crashOk (d p : ByteArray) (z k : Int) : Bool := logB d p z && decide (0 ≤ k ∧ k ≤ (p.size : Int))
def crashT (d p : ByteArray) (k : Nat) (torn : Bool) : ByteArray := if torn = true ∧ 0 < k then d ++ str (flipL (bl (p.extract 0 k))) else d ++ p.extract 0 k
def crashB (d p : ByteArray) (z k : Int) (torn : Bool) : ByteArray := if crashOk d p z k = true then crashT d p k.toNat torn else ⟨#[]⟩
theorem below_bytes (w : World) (e : TypeId) (s : ByteArray) : Below w.heap.size w (Lib.bytesWorld w e s) :=
  ⟨rfl, rfl, rfl, by rw [Lib.bytesWorld_size]; omega, fun j hj => Lib.bytesWorld_at_old w e s j hj⟩
theorem u8_flip (x : UInt8) : (255 - (x.toNat : Int)) = ((255 - x : UInt8).toNat : Int) := by
  have h := UInt8.toNat_lt x
  have h2 : (255 - x : UInt8).toNat = 255 - x.toNat := by
    rw [UInt8.toNat_sub_of_le]
    · rfl
    · rw [UInt8.le_iff_toNat_le]; show x.toNat ≤ 255; omega
  rw [h2]
  omega
theorem bytes_back (w : World) {src e dst : TypeId} (hs : Try.prog.underlying src = some (.slice e)) (he : Try.prog.underlying e = some (.int .u8)) (hd : Try.prog.underlying dst = some .string) (H n cap : Nat) (l : List UInt8) (hl : l.length = n)
    (hc : ∀ j, j < n → w.cell? ⟨H, j, none⟩ = some (.int .u8 ((l.getD j 0).toNat : Int))) : (convert src dst (.slice (some ⟨H, 0, none⟩) n cap)).run Try.prog w = .ok (.string (str l)) w := by
  have := run_convert_bytes_arg (P := Try.prog) w src e hs he H 0 n cap (l.map fun b => (b.toNat : Int)) (by simpa using hl) (fun i hi => by
    rw [Nat.zero_add, hc i hi]
    simp [List.getD, List.getElem?_map]
    rw [List.getElem?_eq_getElem (by omega)]
    simp) dst hd
  rw [this]
  congr 2
  apply bl_inj
  rw [bl_str]
  simp only [strOfNums, bl, List.map_map]
  rw [List.map_congr_left (g := id) (fun x _ => by simp)]
  simp
theorem bytes_cell (w : World) (e : TypeId) (s : ByteArray) (j : Nat) (hj : j < s.size) : (Lib.bytesWorld w e s).cell? ⟨w.heap.size, j, none⟩ = some (.int .u8 (((bl s).getD j 0).toNat : Int)) := Lib.bytesWorld_cell w e s j hj
theorem bytes_frozen (w : World) (e : TypeId) (s : ByteArray) (j : Nat) (hj : j < s.size) : (Lib.bytesWorld w e s).frozen? ⟨w.heap.size, j, none⟩ = false := by
  have h := Lib.bytesWorld_at_new w e s
  have hz : s.size ≤ (Lib.bytesCells w e s).size := by simp [Lib.bytesCells]
  unfold World.frozen?
  simp only [h]
  simp
  omega
/-- the last of the bytes turned: its cells -/
theorem flip_cells {w : World} {H n : Nat} {l : List UInt8} (hl : l.length = n) (hn : 0 < n) (hc : ∀ j, j < n → w.cell? ⟨H, j, none⟩ = some (.int .u8 ((l.getD j 0).toNat : Int))) :
    ∀ j, j < n → (w.setCell ⟨H, n - 1, none⟩ (.int .u8 (255 - ((l.getD (n - 1) 0).toNat : Int)))).cell? ⟨H, j, none⟩ = some (.int .u8 (((flipL l).getD j 0).toNat : Int)) := by
  intro j hj
  rw [u8_flip]
  by_cases e : j = n - 1
  · subst e
    rw [World.cell?_setCell_same _ _ _ (hc _ hj)]
    simp [flipL, hl, List.getD]
    rw [List.getElem?_set_self (by omega)]
    simp
  · rw [World.cell?_setCell_other _ _ _ _ (by intro h; injection h with _ h _; omega), hc j hj]
    simp [flipL, hl, List.getD]
    rw [List.getElem?_set_ne (by omega)]
end Go.Proofs.Ytdielldikdmjpaa
