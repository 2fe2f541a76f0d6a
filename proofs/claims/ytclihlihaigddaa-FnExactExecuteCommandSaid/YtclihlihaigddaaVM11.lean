/- ExecuteCommand: program and reference return the same. -/
import Derived.Test.YtclihlihaigddaaVExI
import Derived.Test.YtclihlihaigddaaVExS
namespace Go.Proofs.Ytclihlihaigddaa
open Go.RowKit
set_option linter.unusedVariables false
set_option linter.unusedSimpArgs false
theorem implEx_any (day pa le : Int) (d p : ByteArray) (z : Int) (A : Option Addr) (n c : Nat) (l : List R5) (line : ByteArray) (w : World) (hn : n ≤ 1048576) (hd : d.size ≤ 2000000) (hp : p.size ≤ 2000000) (hline : line.size ≤ 16000000) (hA : SlOk A n c) (h : Reads w w.heap.size 5 A n (rowsV l)) :
    Calls Try.prog 31 #[conV day A n c pa le d p z, .string line] w (RetEx (exQ (day, l, pa, le) d p z line) d (exP (day, l, pa, le) d p z line) (exZ (day, l, pa, le) d p z line) (exT (day, l, pa, le) d p z line) w) :=
  ex_cases (day, l, pa, le) d p z line (fun q p' z' t => Calls Try.prog 31 #[conV day A n c pa le d p z, .string line] w (RetEx q d p' z' t w))
    (fun h1 => implEx_no day pa le d p z A n c l line w hn hd hp hline hA h h1)
    (fun h1 h2 => implEx_bad day pa le d p z A n c l line w hn hd hp hline hA h h1 h2)
    (fun h1 h2 h3 => implEx_full day pa le d p z A n c l line w hn hd hp hline hA h h1 h2 h3)
    (fun h1 h2 h3 => implEx_go day pa le d p z A n c l line w hn hd hp hline hA h h1 h2 h3)
theorem specEx_any (day pa le : Int) (d p : ByteArray) (z : Int) (A : Option Addr) (n c : Nat) (l : List R5) (line : ByteArray) (w : World) (hn : n ≤ 1048576) (hd : d.size ≤ 2000000) (hp : p.size ≤ 2000000) (hline : line.size ≤ 16000000) (hA : SlOk A n c) (h : Reads w w.heap.size 5 A n (rowsV l)) :
    Calls Try.prog 30 #[conV day A n c pa le d p z, .string line] w (RetEx (exQ (day, l, pa, le) d p z line) d (exP (day, l, pa, le) d p z line) (exZ (day, l, pa, le) d p z line) (exT (day, l, pa, le) d p z line) w) :=
  ex_cases (day, l, pa, le) d p z line (fun q p' z' t => Calls Try.prog 30 #[conV day A n c pa le d p z, .string line] w (RetEx q d p' z' t w))
    (fun h1 => specEx_no day pa le d p z A n c l line w hn hd hp hline hA h h1)
    (fun h1 h2 => specEx_bad day pa le d p z A n c l line w hn hd hp hline hA h h1 h2)
    (fun h1 h2 h3 => specEx_full day pa le d p z A n c l line w hn hd hp hline hA h h1 h2 h3)
    (fun h1 h2 h3 => specEx_go day pa le d p z A n c l line w hn hd hp hline hA h h1 h2 h3)
theorem exQ_len (q : Sch4) (d p : ByteArray) (z : Int) (line : ByteArray) : (exQ q d p z line).2.1.length ≤ q.2.1.length ∨ (exQ q d p z line).2.1.length ≤ 8 := by
  unfold exQ
  split
  · rename_i hg
    simp only [exGo, conB, Bool.and_eq_true] at hg
    exact .inr (schB_len (afQ_ok hg.1.1.1 line))
  · exact .inl (Nat.le_refl _)
end Go.Proofs.Ytclihlihaigddaa
