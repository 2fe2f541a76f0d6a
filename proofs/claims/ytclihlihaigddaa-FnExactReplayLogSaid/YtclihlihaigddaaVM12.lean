/- ExecuteCommand: program and reference return the same. -/
import Derived.Test.YtclihlihaigddaaVExI
import Derived.Test.YtclihlihaigddaaVExS
import Derived.Maps.AppendAt
import Derived.Test.YtclihlihaigddaaVLsW
import Derived.Test.YtclihlihaigddaaVConN
import Derived.Test.YtclihlihaigddaaVM3
namespace Go.Proofs.Ytclihlihaigddaa
open Go.RowKit
set_option linter.unusedVariables false
set_option linter.unusedSimpArgs false
theorem implEx_any (day pa le : Int) (d p : ByteArray) (z : Int) (A : Option Addr) (n c : Nat) (l : List R5) (line : ByteArray) (w : World) (hn : n ≤ 1048576) (hd : d.size ≤ 2000000) (hp : p.size ≤ 2000000) (hline : line.size ≤ 16000000) (hA : SlOk A n c) (h : Reads w w.heap.size 5 A n (rowsV l)) :
 Calls Try.prog 31 #[conV day A n c pa le d p z, .string line] w (RetEx (exQ (day, l, pa, le) d p z line) d (exP (day, l, pa, le) d p z line) (exZ (day, l, pa, le) d p z line) (exT (day, l, pa, le) d p z line) w) :=
 ex_cases (day, l, pa, le) d p z line (fun q p' z' t => Calls Try.prog 31 #[conV day A n c pa le d p z, .string line] w (RetEx q d p' z' t w))
  (fun h1 => implEx_no day pa le d p z A n c l line w hn hd hp hline hA h h1)
  (fun h1 h2 => implEx_bad day pa le d p z A n c l line w hn hd hp hline hA h h1 h2)
  (fun h1 h2 h3 => implEx_full day pa le d p z A n c l line w hn hd hp hline hA h h1 h2 h3)
  (fun h1 h2 h3 => implEx_go day pa le d p z A n c l line w hn hd hp hline hA h h1 h2 h3)
theorem specEx_any (day pa le : Int) (d p : ByteArray) (z : Int) (A : Option Addr) (n c : Nat) (l : List R5) (line : ByteArray) (w : World) (hn : n ≤ 1048576) (hd : d.size ≤ 2000000) (hp : p.size ≤ 2000000) (hline : line.size ≤ 16000000) (hA : SlOk A n c) (h : Reads w w.heap.size 5 A n (rowsV l)) :
 Calls Try.prog 30 #[conV day A n c pa le d p z, .string line] w (RetEx (exQ (day, l, pa, le) d p z line) d (exP (day, l, pa, le) d p z line) (exZ (day, l, pa, le) d p z line) (exT (day, l, pa, le) d p z line) w) :=
 ex_cases (day, l, pa, le) d p z line (fun q p' z' t => Calls Try.prog 30 #[conV day A n c pa le d p z, .string line] w (RetEx q d p' z' t w))
  (fun h1 => specEx_no day pa le d p z A n c l line w hn hd hp hline hA h h1)
  (fun h1 h2 => specEx_bad day pa le d p z A n c l line w hn hd hp hline hA h h1 h2)
  (fun h1 h2 h3 => specEx_full day pa le d p z A n c l line w hn hd hp hline hA h h1 h2 h3)
  (fun h1 h2 h3 => specEx_go day pa le d p z A n c l line w hn hd hp hline hA h h1 h2 h3)
theorem exQ_len (q : Sch4) (d p : ByteArray) (z : Int) (line : ByteArray) : (exQ q d p z line).2.1.length ≤ q.2.1.length ∨ (exQ q d p z line).2.1.length ≤ 8 := by
 unfold exQ
 split
 · rename_i hg
   simp only [exGo, conB, Bool.and_eq_true] at hg
   exact .inr (schB_len (afQ_ok hg.1.1.1 line))
 · exact .inl (Nat.le_refl _)
end Go.Proofs.Ytclihlihaigddaa
namespace Go.Proofs.Ytclihlihaigddaa
open Go.RowKit
set_option linter.unusedVariables false
set_option linter.unusedSimpArgs false
abbrev Con := Sch4 × ByteArray × ByteArray × Int
def exC (c : Con) (line : ByteArray) : Con := (exQ c.1 c.2.1 c.2.2.1 c.2.2.2 line, c.2.1, exP c.1 c.2.1 c.2.2.1 c.2.2.2 line, exZ c.1 c.2.1 c.2.2.1 c.2.2.2 line)
def exR (c : Con) (line : ByteArray) : ByteArray := exT c.1 c.2.1 c.2.2.1 c.2.2.2 line
theorem exT_size (q : Sch4) (d p : ByteArray) (z : Int) (line : ByteArray) : (exT q d p z line).size ≤ 200 := by
 unfold exT
 split
 · decide
 · split
   · decide
   · split
     · decide
     · exact cutT_size _
theorem exP_size (q : Sch4) (d p : ByteArray) (z : Int) (line : ByteArray) : (exP q d p z line).size ≤ p.size + 405 := by
 unfold exP
 split
 · rename_i hg
   simp only [exGo, Bool.and_eq_true] at hg
   have h1 := rec_parts hg.1.2
   have h2 := exT_size q d p z line
   unfold appP
   split
   · have := lineB_size z line (exT q d p z line)
     rw [ByteArray.size_append]; omega
   · omega
 · omega
def scrStep (s : Con × List ByteArray) (x : List UInt8) : Con × List ByteArray := (exC s.1 (str x), s.2 ++ [exR s.1 (str x)])
def scrTo (c0 : Con) (W : List (List UInt8)) (k : Nat) : Con × List ByteArray := (W.take k).foldl scrStep (c0, [])
theorem scrTo_zero (c0 : Con) (W : List (List UInt8)) : scrTo c0 W 0 = (c0, []) := by simp [scrTo]
theorem scrTo_succ {c0 C : Con} {W : List (List UInt8)} {k : Nat} {x : List UInt8} {rs : List ByteArray} (h : scrTo c0 W k = (C, rs)) (hx : W[k]? = some x) : scrTo c0 W (k + 1) = (exC C (str x), rs ++ [exR C (str x)]) := by
 unfold scrTo at *
 rw [List.take_add_one, hx, List.foldl_append, h]
 rfl
theorem scr_inv {c0 : Con} {W : List (List UInt8)} : ∀ (k : Nat) (C : Con) (rs : List ByteArray), scrTo c0 W k = (C, rs) → k ≤ W.length → rs.length = k ∧ C.2.1 = c0.2.1 ∧ C.2.2.1.size ≤ c0.2.2.1.size + k * 405 ∧ (C.1.2.1.length ≤ c0.1.2.1.length ∨ C.1.2.1.length ≤ 8) := by
 intro k
 induction k with
 | zero =>
   intro C rs h _
   rw [scrTo_zero] at h
   injection h with h1 h2
   subst h1 h2
   exact ⟨rfl, rfl, by omega, .inl (Nat.le_refl _)⟩
 | succ k ih =>
   intro C rs h hk
   obtain ⟨x, hx⟩ := list_split (l := W) (k := k) (by omega)
   rcases hp : scrTo c0 W k with ⟨C', rs'⟩
   rw [scrTo_succ hp hx] at h
   injection h with h1 h2
   subst h1 h2
   obtain ⟨i1, i2, i3, i4⟩ := ih _ _ hp (by omega)
   have h3 := exP_size C'.1 C'.2.1 C'.2.2.1 C'.2.2.2 (str x)
   have h4 := exQ_len C'.1 C'.2.1 C'.2.2.1 C'.2.2.2 (str x)
   refine ⟨by simp [i1], i2, ?_, ?_⟩
   · show (exP C'.1 C'.2.1 C'.2.2.1 C'.2.2.2 (str x)).size ≤ _
     omega
   · show (exQ C'.1 C'.2.1 C'.2.2.1 C'.2.2.2 (str x)).2.1.length ≤ _ ∨ _
     show _ ∨ (exQ C'.1 C'.2.1 C'.2.2.1 C'.2.2.2 (str x)).2.1.length ≤ 8
     omega
/-- what RunScript answers -/
def scO (c0 : Con) (text : ByteArray) : Option (List ByteArray) :=
 if conB c0.1.1 c0.1.2.1 c0.1.2.2.1 c0.1.2.2.2 c0.2.1 c0.2.2.1 c0.2.2.2 = true ∧ (splitL 10 (bl text)).length ≤ 30 ∧ text.size ≤ 4000 then some (scrTo c0 (splitL 10 (bl text)) (splitL 10 (bl text)).length).2 else none
def scR (c0 : Con) (text : ByteArray) : List ByteArray := (scO c0 text).getD []
theorem scR_len (c0 : Con) (text : ByteArray) : (scR c0 text).length ≤ 30 := by
 unfold scR scO
 split
 · rename_i h
   rcases hp : scrTo c0 (splitL 10 (bl text)) (splitL 10 (bl text)).length with ⟨C, rs⟩
   have := (scr_inv _ _ _ hp (Nat.le_refl _)).1
   simp only [Option.getD_some]
   omega
 · simp
theorem own_ne_ty {w : World} {B1 B2 E1 s1 n1 E2 s2 n2 : Nat} {v1 v2 : Value} {xs ys : List Value} (h1 : w.ownsRow B1 E1 s1 v1 n1 xs) (h2 : w.ownsRow B2 E2 s2 v2 n2 ys) (hne : E1 ≠ E2) : v1.ownBlock = none ∨ v1.ownBlock ≠ v2.ownBlock := by
 rcases h1.2 with ⟨rfl, _⟩ | ⟨g, cap, cur, rfl, _, hg, _, _, _, _⟩
 · exact .inl rfl
 · refine .inr fun e => ?_
   have e : some g = v2.ownBlock := e
   exact own_nb h2 (b := g) (t := E1) (cs := cur) hg hne e.symm
theorem own_dis0 (v : Value) : v.ownBlock = none ∨ v.ownBlock ≠ Value.ownBlock (.slice none 0 0) := by
 rcases h : v.ownBlock with _ | g
 · exact .inl rfl
 · exact .inr (by intro e; cases e)
theorem own_dis2 {wx : World} {B E s n : Nat} {ws v v' : Value} {xs : List Value} (hw : wx.ownsRow B E s ws n xs) (hd : ws.ownBlock = none ∨ ws.ownBlock ≠ v.ownBlock) (hat : v'.ownBlock = v.ownBlock ∨ v'.ownBlock = some wx.heap.size) : ws.ownBlock = none ∨ ws.ownBlock ≠ v'.ownBlock := by
 rcases hat with e | e
 · rw [e]; exact hd
 · rw [e]
   refine .inr fun h => ?_
   have := (hw.lt _ h).2
   omega
end Go.Proofs.Ytclihlihaigddaa
namespace Go.Proofs.Ytclihlihaigddaa
open Go.RowKit
set_option linter.unusedVariables false
set_option linter.unusedSimpArgs false
theorem recF_mem (s : ByteArray) : ∀ (f a k : Nat) (r : ByteArray × ByteArray), r ∈ (recF s f a k).1 → recB r.1 r.2 = true := by
 intro f
 induction f with
 | zero => intro a k r h; simp [recF] at h
 | succ f ih =>
   intro a k r h
   unfold recF at h
   split at h
   · rename_i hs
     simp only [stepB, dOk, Bool.and_eq_true] at hs
     rcases List.mem_cons.1 h with rfl | h
     · show recB (dC k (ln s a)) (dR k (ln s a)) = true
       unfold dC dR
       rw [if_pos hs.2.1.1, if_pos hs.2.1.1]
       exact hs.2.1.2
     · exact ih _ _ _ h
   · simp at h
theorem lrL_mem (d p : ByteArray) (z : Int) : ∀ r ∈ lrL d p z, recB r.1 r.2 = true := by
 intro r h
 unfold lrL at h
 split at h
 · exact recF_mem _ _ _ _ r h
 · simp at h
def stTo (c0 : Con) (rs : List CR) (k : Nat) : Con := (rs.take k).foldl (fun c r => exC c r.1) c0
theorem stTo_zero (c0 : Con) (rs : List CR) : stTo c0 rs 0 = c0 := by simp [stTo]
theorem stTo_succ {c0 C : Con} {rs : List CR} {k : Nat} {r : CR} (h : stTo c0 rs k = C) (hr : rs[k]? = some r) : stTo c0 rs (k + 1) = exC C r.1 := by
 unfold stTo at *
 rw [List.take_add_one, hr, List.foldl_append, h]
 rfl
/-- the index of the first record whose reply differs, or their number -/
def rpl : Con → List CR → Nat
 | _, [] => 0
 | c, r :: rs => if exR c r.1 = r.2 then rpl (exC c r.1) rs + 1 else 0
theorem rpl_step {C : Con} {rs : List CR} {k : Nat} {r : CR} (hr : rs[k]? = some r) : rpl C (rs.drop k) = if exR C r.1 = r.2 then rpl (exC C r.1) (rs.drop (k + 1)) + 1 else 0 := by
 have hk := (List.getElem?_eq_some_iff.1 hr)
 obtain ⟨hlt, he⟩ := hk
 rw [List.drop_eq_getElem_cons hlt, he]
 rfl
theorem rpl_le : ∀ (rs : List CR) (c : Con), rpl c rs ≤ rs.length := by
 intro rs
 induction rs with
 | nil => intro c; exact Nat.le_refl _
 | cons r rs ih =>
   intro c
   unfold rpl
   split
   · have := ih (exC c r.1); simp; omega
   · simp
theorem st_inv {c0 : Con} {rs : List CR} : ∀ (k : Nat) (C : Con), stTo c0 rs k = C → k ≤ rs.length → C.2.1 = c0.2.1 ∧ C.2.2.1.size ≤ c0.2.2.1.size + k * 405 ∧ (C.1.2.1.length ≤ c0.1.2.1.length ∨ C.1.2.1.length ≤ 8) := by
 intro k
 induction k with
 | zero =>
   intro C h _
   rw [stTo_zero] at h
   subst h
   exact ⟨rfl, by omega, .inl (Nat.le_refl _)⟩
 | succ k ih =>
   intro C h hk
   obtain ⟨r, hr⟩ := list_split (l := rs) (k := k) (by omega)
   obtain ⟨C', hp⟩ : ∃ C', stTo c0 rs k = C' := ⟨_, rfl⟩
   rw [stTo_succ hp hr] at h
   subst h
   obtain ⟨i2, i3, i4⟩ := ih _ hp (by omega)
   have h3 := exP_size C'.1 C'.2.1 C'.2.2.1 C'.2.2.2 r.1
   have h4 := exQ_len C'.1 C'.2.1 C'.2.2.1 C'.2.2.2 r.1
   refine ⟨i2, ?_, ?_⟩
   · show (exP C'.1 C'.2.1 C'.2.2.1 C'.2.2.2 r.1).size ≤ _
     omega
   · show (exQ C'.1 C'.2.1 C'.2.2.1 C'.2.2.2 r.1).2.1.length ≤ _ ∨ (exQ C'.1 C'.2.1 C'.2.2.1 C'.2.2.2 r.1).2.1.length ≤ 8
     omega
abbrev con0 (day : Int) : Con := ((day, [], 0, 0), ⟨#[]⟩, ⟨#[]⟩, 0)
/-- what ReplayLog answers -/
def rplN (day : Int) (d p : ByteArray) (z : Int) : Nat := if inB day 0 4000 = true ∧ logB d p z = true then rpl (con0 day) (lrL d p z) else 0
def rplB (day : Int) (d p : ByteArray) (z : Int) : Bool := inB day 0 4000 && logB d p z
def RetRpl (n : Nat) (ok : Bool) (w : World) (e : Ending) (w' : World) : Prop := e = .returned (.tuple #[.int .i64 (n : Int), .bool ok]) ∧ Below w.heap.size w w'
end Go.Proofs.Ytclihlihaigddaa
