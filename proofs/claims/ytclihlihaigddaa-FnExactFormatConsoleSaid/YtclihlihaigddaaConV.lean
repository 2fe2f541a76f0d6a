
/- Whether a console is valid: program and reference, walked. -/
import Derived.Test.YtclihlihaigddaaConL
import Derived.Test.YtclihlihaigddaaScX
import Derived.Test.YtclihlihaigddaaScW
import Derived.Test.YtclihlihaigddaaLgW
namespace Go.Proofs.Ytclihlihaigddaa
open Go.RowKit
set_option linter.unusedVariables false
set_option linter.unusedSimpArgs false
def conB (day : Int) (l : List R5) (pa le : Int) (d p : ByteArray) (z : Int) : Bool := schB day l pa le && logB d p z

theorem implIsValidConsole_any (day pa le : Int) (d p : ByteArray) (z : Int) (A : Option Addr) (n c : Nat) (l : List R5) (w : World) (hn : n ≤ 1048576) (hd : d.size ≤ 2000000) (hp : p.size ≤ 2000000) (h : Reads w w.heap.size 5 A n (rowsV l)) :
    Calls Try.prog 23 #[conV day A n c pa le d p z] w fun e w' => e = .returned (.bool (conB day l pa le d p z)) ∧ Below w.heap.size w w' := by
  have HS := Lib.hid (fun (w : World) h => isSchool_any day pa le A n c l w hn h)
  have HG := Lib.hid (fun w => isValidLog_any d p z w hd hp)
  have H := Lib.hid h
  unfold conB
  clear h
  rcases hs : schB day l pa le with _ | _
  · rw [hs] at HS
    clear hs
    rw [Bool.false_and]
    go_enter Try.func23, Try.ntmps23
    go_wp2_with fail
    refine (HS.out _ ((H.out.ext (ext_alloc (ext_refl _) _) (Nat.le_refl _)).more (by simp))).mono ?_
    rintro e w1 ⟨rfl, hb1⟩
    have b1 := Lib.hid (ext_trans (ext_alloc (ext_refl w) _) hb1)
    clear hb1
    go_wp2
    go_ret
    exact ⟨rfl, b1.out⟩
  · rw [hs] at HS
    clear hs
    rw [Bool.true_and]
    go_enter Try.func23, Try.ntmps23
    go_wp2_with fail
    refine (HS.out _ ((H.out.ext (ext_alloc (ext_refl _) _) (Nat.le_refl _)).more (by simp))).mono ?_
    rintro e w1 ⟨rfl, hb1⟩
    obtain ⟨hc1, hf1⟩ := bcell hb1
    have z0 : w.heap.size < w1.heap.size := by (have := hb1.size; simp at this; omega)
    have b1 := Lib.hid (ext_trans (ext_alloc (ext_refl w) _) hb1)
    clear hb1
    go_wp2_with fail
    refine (HG.out _).mono ?_
    rintro e w2 ⟨rfl, hb2⟩
    have b2 := Lib.hid (ext_trans b1.out hb2)
    clear hb2
    go_wp2
    go_ret
    exact ⟨rfl, b2.out⟩

theorem l28Good_any (day pa le : Int) (d p : ByteArray) (z : Int) (A : Option Addr) (n c : Nat) (l : List R5) (w : World) (hn : n ≤ 1048576) (hd : d.size ≤ 2000000) (hp : p.size ≤ 2000000) (h : Reads w w.heap.size 5 A n (rowsV l)) :
    Calls Try.prog 83 #[conV day A n c pa le d p z] w fun e w' => e = .returned (.bool (conB day l pa le d p z)) ∧ Below w.heap.size w w' := by
  have HS := Lib.hid (fun (w : World) h => l25Good_any day pa le A n c l w hn h)
  have HG := Lib.hid (fun w => l27Log_small d p z w hd hp)
  have H := Lib.hid h
  unfold conB
  clear h
  rcases hs : schB day l pa le with _ | _
  · rw [hs] at HS
    clear hs
    rw [Bool.false_and]
    go_enter Try.func83, Try.ntmps83
    go_wp2_with fail
    refine (HS.out _ ((H.out.ext (ext_alloc (ext_refl _) _) (Nat.le_refl _)).more (by simp))).mono ?_
    rintro e w1 ⟨rfl, hb1⟩
    have b1 := Lib.hid (ext_trans (ext_alloc (ext_refl w) _) hb1)
    clear hb1
    go_wp2
    go_ret
    exact ⟨rfl, b1.out⟩
  · rw [hs] at HS
    clear hs
    rw [Bool.true_and]
    go_enter Try.func83, Try.ntmps83
    go_wp2_with fail
    refine (HS.out _ ((H.out.ext (ext_alloc (ext_refl _) _) (Nat.le_refl _)).more (by simp))).mono ?_
    rintro e w1 ⟨rfl, hb1⟩
    obtain ⟨hc1, hf1⟩ := bcell hb1
    have z0 : w.heap.size < w1.heap.size := by (have := hb1.size; simp at this; omega)
    have b1 := Lib.hid (ext_trans (ext_alloc (ext_refl w) _) hb1)
    clear hb1
    go_wp2_with fail
    refine (HG.out _).mono ?_
    rintro e w2 ⟨rfl, hb2⟩
    have b2 := Lib.hid (ext_trans b1.out hb2)
    clear hb2
    go_wp2
    go_ret
    exact ⟨rfl, b2.out⟩
theorem specIsValidConsole_any (day pa le : Int) (d p : ByteArray) (z : Int) (A : Option Addr) (n c : Nat) (l : List R5) (w : World) (hn : n ≤ 1048576) (hd : d.size ≤ 2000000) (hp : p.size ≤ 2000000) (h : Reads w w.heap.size 5 A n (rowsV l)) :
    Calls Try.prog 21 #[conV day A n c pa le d p z] w fun e w' => e = .returned (.bool (conB day l pa le d p z)) ∧ Below w.heap.size w w' := by
  have H := Lib.hid h
  clear h
  go_enter Try.func21, Try.ntmps21
  go_wp2_with fail
  refine (l28Good_any day pa le d p z A n c l _ hn hd hp ((H.out.ext (ext_alloc (ext_refl _) _) (Nat.le_refl _)).more (by simp))).mono ?_
  rintro e w1 ⟨rfl, hb1⟩
  have b1 := Lib.hid (ext_trans (ext_alloc (ext_refl w) _) hb1)
  clear hb1
  go_wp2
  go_ret
  exact ⟨rfl, b1.out⟩
end Go.Proofs.Ytclihlihaigddaa
