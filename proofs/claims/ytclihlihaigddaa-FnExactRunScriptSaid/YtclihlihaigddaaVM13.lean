/- RunScript: program and reference return the same. -/
import Derived.Test.YtclihlihaigddaaVScrI
import Derived.Test.YtclihlihaigddaaVScrS
namespace Go.Proofs.Ytclihlihaigddaa
open Go.RowKit
set_option linter.unusedVariables false
set_option linter.unusedSimpArgs false
theorem implScr_any (day pa le : Int) (d p : ByteArray) (z : Int) (A : Option Addr) (n c : Nat) (l : List R5) (text : ByteArray) (w : World) (hn : n ≤ 1048576) (hd : d.size ≤ 1048576) (hp : p.size ≤ 1048576) (ht : text.size ≤ 1048576) (hA : SlOk A n c) (h : Reads w w.heap.size 5 A n (rowsV l)) :
 Calls Try.prog 33 #[conV day A n c pa le d p z, .string text] w (RetSliceB w 9 1 (scR ((day, l, pa, le), d, p, z) text).length (textsV (scR ((day, l, pa, le), d, p, z) text)) (scO ((day, l, pa, le), d, p, z) text).isSome) := by
 unfold scR scO
 rcases hc : conB day l pa le d p z with _ | _
 · rw [if_neg (fun h => by cases h.1)]
   exact implScr_bad1 day pa le d p z A n c l text w hn hd hp ht hA h hc
 by_cases hb : (splitL 10 (bl text)).length ≤ 30 ∧ text.size ≤ 4000
 · rw [if_pos ⟨rfl, hb⟩]
   exact implScr_go day pa le d p z A n c l text w hn hd hp ht hA h hc hb.1 hb.2
 · rw [if_neg (fun h => hb h.2)]
   exact implScr_bad23 day pa le d p z A n c l text w hn hd hp ht hA h hc (by omega)
theorem specScr_any (day pa le : Int) (d p : ByteArray) (z : Int) (A : Option Addr) (n c : Nat) (l : List R5) (text : ByteArray) (w : World) (hn : n ≤ 1048576) (hd : d.size ≤ 1048576) (hp : p.size ≤ 1048576) (ht : text.size ≤ 1048576) (hA : SlOk A n c) (h : Reads w w.heap.size 5 A n (rowsV l)) :
 Calls Try.prog 32 #[conV day A n c pa le d p z, .string text] w (RetSliceB w 9 1 (scR ((day, l, pa, le), d, p, z) text).length (textsV (scR ((day, l, pa, le), d, p, z) text)) (scO ((day, l, pa, le), d, p, z) text).isSome) := by
 unfold scR scO
 rcases hc : conB day l pa le d p z with _ | _
 · rw [if_neg (fun h => by cases h.1)]
   exact specScr_bad1 day pa le d p z A n c l text w hn hd hp ht hA h hc
 by_cases hb : (splitL 10 (bl text)).length ≤ 30 ∧ text.size ≤ 4000
 · rw [if_pos ⟨rfl, hb⟩]
   exact specScr_go day pa le d p z A n c l text w hn hd hp ht hA h hc hb.1 hb.2
 · rw [if_neg (fun h => hb h.2)]
   exact specScr_bad23 day pa le d p z A n c l text w hn hd hp ht hA h hc (by omega)
end Go.Proofs.Ytclihlihaigddaa
