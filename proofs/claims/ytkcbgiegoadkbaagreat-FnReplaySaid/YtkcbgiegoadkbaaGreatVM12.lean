/- ExecuteCommand: program and reference return the same. -/
import Derived.Test.YtkcbgiegoadkbaaGreatVExI
import Derived.Test.YtkcbgiegoadkbaaGreatVExS
import Derived.Maps.AppendAt
import Derived.Test.YtkcbgiegoadkbaaGreatVLsW
import Derived.Test.YtkcbgiegoadkbaaGreatVM5
import Derived.Test.YtkcbgiegoadkbaaGreatVM3
import Derived.Test.YtkcbgiegoadkbaaGreatVM4
namespace Go.Proofs.YtkcbgiegoadkbaaGreat
open Go.RowKit
set_option linter.unusedVariables false
set_option linter.unusedSimpArgs false
theorem implEx_any (day pa le : Int) (d p : ByteArray) (z : Int) (A : Option Addr) (n c : Nat) (l : List R5) (line : ByteArray) (w : World) (hn : n ≤ 1048576) (hd : d.size ≤ 2000000) (hp : p.size ≤ 2000000) (hline : line.size ≤ 16000000) (hA : SlOk A n c) (h : Reads w w.heap.size 5 A n (rowsV l)) :
 Calls Tryz.prog 13 #[conV day A n c pa le d p z, .string line] w (RetEx (exQ (day, l, pa, le) d p z line) d (exP (day, l, pa, le) d p z line) (exZ (day, l, pa, le) d p z line) (exT (day, l, pa, le) d p z line) w) :=
 ex_cases (day, l, pa, le) d p z line (fun q p' z' t => Calls Tryz.prog 13 #[conV day A n c pa le d p z, .string line] w (RetEx q d p' z' t w))
  (fun h1 => implEx_no day pa le d p z A n c l line w hn hd hp hline hA h h1)
  (fun h1 h2 => implEx_bad day pa le d p z A n c l line w hn hd hp hline hA h h1 h2)
  (fun h1 h2 h3 => implEx_full day pa le d p z A n c l line w hn hd hp hline hA h h1 h2 h3)
  (fun h1 h2 h3 => implEx_go day pa le d p z A n c l line w hn hd hp hline hA h h1 h2 h3)
theorem specEx_any (day pa le : Int) (d p : ByteArray) (z : Int) (A : Option Addr) (n c : Nat) (l : List R5) (line : ByteArray) (w : World) (hn : n ≤ 1048576) (hd : d.size ≤ 2000000) (hp : p.size ≤ 2000000) (hline : line.size ≤ 16000000) (hA : SlOk A n c) (h : Reads w w.heap.size 5 A n (rowsV l)) :
 Calls Tryz.prog 18 #[conV day A n c pa le d p z, .string line] w (RetEx (exQ (day, l, pa, le) d p z line) d (exP (day, l, pa, le) d p z line) (exZ (day, l, pa, le) d p z line) (exT (day, l, pa, le) d p z line) w) :=
 ex_cases (day, l, pa, le) d p z line (fun q p' z' t => Calls Tryz.prog 18 #[conV day A n c pa le d p z, .string line] w (RetEx q d p' z' t w))
  (fun h1 => specEx_no day pa le d p z A n c l line w hn hd hp hline hA h h1)
  (fun h1 h2 => specEx_bad day pa le d p z A n c l line w hn hd hp hline hA h h1 h2)
  (fun h1 h2 h3 => specEx_full day pa le d p z A n c l line w hn hd hp hline hA h h1 h2 h3)
  (fun h1 h2 h3 => specEx_go day pa le d p z A n c l line w hn hd hp hline hA h h1 h2 h3)
theorem exQ_len (q : Sch4) (d p : ByteArray) (z : Int) (line : ByteArray) : (exQ q d p z line).2.1.length ≤ q.2.1.length ∨ (exQ q d p z line).2.1.length ≤ 8 := by
 unfold exQ
 split
 · rename_i hg
   simp only [exGo, conB, Bool.and_eq_true] at hg
   exact .inr (schB_len (afQ_ok hg.1.1.1 line))
 · exact .inl (Nat.le_refl _)
end Go.Proofs.YtkcbgiegoadkbaaGreat
namespace Go.Proofs.YtkcbgiegoadkbaaGreat
open Go.RowKit
set_option linter.unusedVariables false
set_option linter.unusedSimpArgs false
abbrev Con := Sch4 × ByteArray × ByteArray × Int
def exC (c : Con) (line : ByteArray) : Con := (exQ c.1 c.2.1 c.2.2.1 c.2.2.2 line, c.2.1, exP c.1 c.2.1 c.2.2.1 c.2.2.2 line, exZ c.1 c.2.1 c.2.2.1 c.2.2.2 line)
def exR (c : Con) (line : ByteArray) : ByteArray := exT c.1 c.2.1 c.2.2.1 c.2.2.2 line
theorem exT_size (q : Sch4) (d p : ByteArray) (z : Int) (line : ByteArray) : (exT q d p z line).size ≤ 200 := by
 unfold exT
 split
 · decide
 · split
   · decide
   · split
     · decide
     · exact cutT_size _
theorem exP_size (q : Sch4) (d p : ByteArray) (z : Int) (line : ByteArray) : (exP q d p z line).size ≤ p.size + 405 := by
 unfold exP
 split
 · rename_i hg
   simp only [exGo, Bool.and_eq_true] at hg
   have h1 := rec_parts hg.1.2
   have h2 := exT_size q d p z line
   unfold appP
   split
   · have := lineB_size z line (exT q d p z line)
     rw [ByteArray.size_append]; omega
   · omega
 · omega
def scrStep (s : Con × List ByteArray) (x : List UInt8) : Con × List ByteArray := (exC s.1 (str x), s.2 ++ [exR s.1 (str x)])
def scrTo (c0 : Con) (W : List (List UInt8)) (k : Nat) : Con × List ByteArray := (W.take k).foldl scrStep (c0, [])
theorem scrTo_zero (c0 : Con) (W : List (List UInt8)) : scrTo c0 W 0 = (c0, []) := by simp [scrTo]
theorem scrTo_succ {c0 C : Con} {W : List (List UInt8)} {k : Nat} {x : List UInt8} {rs : List ByteArray} (h : scrTo c0 W k = (C, rs)) (hx : W[k]? = some x) : scrTo c0 W (k + 1) = (exC C (str x), rs ++ [exR C (str x)]) := by
 unfold scrTo at *
 rw [List.take_add_one, hx, List.foldl_append, h]
 rfl
theorem scr_inv {c0 : Con} {W : List (List UInt8)} : ∀ (k : Nat) (C : Con) (rs : List ByteArray), scrTo c0 W k = (C, rs) → k ≤ W.length → rs.length = k ∧ C.2.1 = c0.2.1 ∧ C.2.2.1.size ≤ c0.2.2.1.size + k * 405 ∧ (C.1.2.1.length ≤ c0.1.2.1.length ∨ C.1.2.1.length ≤ 8) := by
 intro k
 induction k with
 | zero =>
   intro C rs h _
   rw [scrTo_zero] at h
   injection h with h1 h2
   subst h1 h2
   exact ⟨rfl, rfl, by omega, .inl (Nat.le_refl _)⟩
 | succ k ih =>
   intro C rs h hk
   obtain ⟨x, hx⟩ := list_split (l := W) (k := k) (by omega)
   rcases hp : scrTo c0 W k with ⟨C', rs'⟩
   rw [scrTo_succ hp hx] at h
   injection h with h1 h2
   subst h1 h2
   obtain ⟨i1, i2, i3, i4⟩ := ih _ _ hp (by omega)
   have h3 := exP_size C'.1 C'.2.1 C'.2.2.1 C'.2.2.2 (str x)
   have h4 := exQ_len C'.1 C'.2.1 C'.2.2.1 C'.2.2.2 (str x)
   refine ⟨by simp [i1], i2, ?_, ?_⟩
   · show (exP C'.1 C'.2.1 C'.2.2.1 C'.2.2.2 (str x)).size ≤ _
     omega
   · show (exQ C'.1 C'.2.1 C'.2.2.1 C'.2.2.2 (str x)).2.1.length ≤ _ ∨ _
     show _ ∨ (exQ C'.1 C'.2.1 C'.2.2.1 C'.2.2.2 (str x)).2.1.length ≤ 8
     omega
/-- what RunScript answers -/
def scO (c0 : Con) (text : ByteArray) : Option (List ByteArray) :=
 if conB c0.1.1 c0.1.2.1 c0.1.2.2.1 c0.1.2.2.2 c0.2.1 c0.2.2.1 c0.2.2.2 = true ∧ (splitL 10 (bl text)).length ≤ 30 ∧ text.size ≤ 4000 then some (scrTo c0 (splitL 10 (bl text)) (splitL 10 (bl text)).length).2 else none
def scR (c0 : Con) (text : ByteArray) : List ByteArray := (scO c0 text).getD []
theorem scR_len (c0 : Con) (text : ByteArray) : (scR c0 text).length ≤ 30 := by
 unfold scR scO
 split
 · rename_i h
   rcases hp : scrTo c0 (splitL 10 (bl text)) (splitL 10 (bl text)).length with ⟨C, rs⟩
   have := (scr_inv _ _ _ hp (Nat.le_refl _)).1
   simp only [Option.getD_some]
   omega
 · simp
theorem own_ne_ty {w : World} {B1 B2 E1 s1 n1 E2 s2 n2 : Nat} {v1 v2 : Value} {xs ys : List Value} (h1 : w.ownsRow B1 E1 s1 v1 n1 xs) (h2 : w.ownsRow B2 E2 s2 v2 n2 ys) (hne : E1 ≠ E2) : v1.ownBlock = none ∨ v1.ownBlock ≠ v2.ownBlock := by
 rcases h1.2 with ⟨rfl, _⟩ | ⟨g, cap, cur, rfl, _, hg, _, _, _, _⟩
 · exact .inl rfl
 · refine .inr fun e => ?_
   have e : some g = v2.ownBlock := e
   exact own_nb h2 (b := g) (t := E1) (cs := cur) hg hne e.symm
theorem own_dis0 (v : Value) : v.ownBlock = none ∨ v.ownBlock ≠ Value.ownBlock (.slice none 0 0) := by
 rcases h : v.ownBlock with _ | g
 · exact .inl rfl
 · exact .inr (by intro e; cases e)
theorem own_dis2 {wx : World} {B E s n : Nat} {ws v v' : Value} {xs : List Value} (hw : wx.ownsRow B E s ws n xs) (hd : ws.ownBlock = none ∨ ws.ownBlock ≠ v.ownBlock) (hat : v'.ownBlock = v.ownBlock ∨ v'.ownBlock = some wx.heap.size) : ws.ownBlock = none ∨ ws.ownBlock ≠ v'.ownBlock := by
 rcases hat with e | e
 · rw [e]; exact hd
 · rw [e]
   refine .inr fun h => ?_
   have := (hw.lt _ h).2
   omega
end Go.Proofs.YtkcbgiegoadkbaaGreat
namespace Go.Proofs.YtkcbgiegoadkbaaGreat
open Go.RowKit
set_option linter.unusedVariables false
set_option linter.unusedSimpArgs false
theorem pr_app {a b : ByteArray} (ha : printedB a = true) (hb : printedB b = true) : printedB (a ++ b) = true := by
 unfold printedB at *
 rw [bl_append, List.all_append, ha, hb]
 rfl
theorem dig_ok : ∀ n : Fin 10, okByte (dig n.val) = true := by decide +kernel
theorem decF_ok : ∀ f n, (decF f n).all okByte = true := by
 intro f
 induction f with
 | zero => intro n; rfl
 | succ f ih =>
   intro n
   unfold decF
   split
   · rename_i h
     simpa using dig_ok ⟨n, h⟩
   · rw [List.all_append, ih]
     simpa using dig_ok ⟨n % 10, by omega⟩
theorem pr_dec (n : Nat) : printedB (dec n) = true := by rw [printedB, show bl (dec n) = decF 20 n from by simp [bl, dec]]; exact decF_ok _ _
theorem pr_decI (z : Int) : printedB (decI z) = true := by
 unfold decI
 split
 · exact pr_app (by decide +kernel) (pr_dec _)
 · exact pr_dec _
theorem pr_fold {sep : ByteArray} (hs : printedB sep = true) : ∀ (r : List ByteArray) (a : ByteArray), printedB a = true → (∀ q ∈ r, printedB q = true) → printedB (r.foldl (fun a q => (a ++ sep) ++ q) a) = true := by
 intro r
 induction r with
 | nil => intro a ha _; exact ha
 | cons x r ih =>
   intro a ha h
   exact ih _ (pr_app (pr_app ha hs) (h x (by simp))) (fun q hq => h q (by simp [hq]))
theorem pr_listT (ns : List Int) : printedB (listT ns) = true := by
 unfold listT
 split
 · decide +kernel
 · unfold joinTo
   have hm : ∀ q ∈ (ns.map decI).take ns.length, printedB q = true := by
    intro q hq
    have := List.mem_of_mem_take hq
    rw [List.mem_map] at this
    obtain ⟨z, _, rfl⟩ := this
    exact pr_decI z
   rcases h : (ns.map decI).take ns.length with _ | ⟨x, r⟩
   · decide +kernel
   · rw [h] at hm
     exact pr_fold (by decide +kernel) r x (hm x (by simp)) (fun q hq => hm q (by simp [hq]))
theorem pr_stuT (r : R5) : printedB (stuT r) = true := by
 unfold stuT
 repeat (first | exact pr_decI _ | refine pr_app ?_ ?_ | decide +kernel)
theorem pr_stuO {day pa le : Int} {l : List R5} {id : Int} {t : ByteArray} (h : stuO day pa le l id = some t) : printedB t = true := by
 unfold stuO at h
 split at h
 · split at h
   · cases h
   · split at h
     · cases h
     · injection h with h; rw [← h]; exact pr_stuT _
 · cases h
theorem pr_rep0 {q s : Sch4} {word t : ByteArray} (h : rep0 q word = some (s, t)) : printedB t = true ∧ s = q := by
 unfold rep0 at h
 split at h
 · injection h with h; injection h with h1 h2; rw [← h2]; exact ⟨pr_decI _, h1.symm⟩
 · split at h
   · injection h with h; injection h with h1 h2; rw [← h2]; exact ⟨pr_listT _, h1.symm⟩
   · split at h
     · injection h with h; injection h with h1 h2; rw [← h2]; exact ⟨pr_listT _, h1.symm⟩
     · cases h
theorem pr_rep1 {q s : Sch4} {word t : ByteArray} {n : Int} (hq : schQ q = true) (h : rep1 q word n = some (s, t)) : printedB t = true ∧ schQ s = true := by
 unfold rep1 at h
 split at h
 · rcases hs : stpQ q 1 0 n with _ | y
   · rw [hs] at h; cases h
   · rw [hs] at h; injection h with h; injection h with h1 h2; rw [← h2, ← h1]; exact ⟨pr_decI _, stpQ_ok hs⟩
 · split at h
   · rcases hs : stpQ q 6 n 0 with _ | y
     · rw [hs] at h; cases h
     · rw [hs] at h; injection h with h; injection h with h1 h2; rw [← h2, ← h1]; exact ⟨pr_listT _, stpQ_ok hs⟩
   · split at h
     · rcases hs : hmO q.1 q.2.2.1 q.2.2.2 q.2.1 n with _ | y
       · rw [hs] at h; cases h
       · rw [hs] at h; injection h with h; injection h with h1 h2; rw [← h2, ← h1]; exact ⟨pr_decI _, hq⟩
     · split at h
       · rcases hs : stuQ q n with _ | y
         · rw [hs] at h; cases h
         · rw [hs] at h; injection h with h; injection h with h1 h2; rw [← h2, ← h1]; exact ⟨pr_stuO hs, hq⟩
       · cases h
theorem pr_rep2 {q s : Sch4} {word t : ByteArray} {n v : Int} (h : rep2 q word n v = some (s, t)) : printedB t = true ∧ schQ s = true := by
 unfold rep2 at h
 split at h
 · rcases hs : stpQ q (kindB word) n v with _ | y
   · rw [hs] at h; cases h
   · rw [hs] at h
     injection h with h
     injection h with h1 h2
     rw [← h2, ← h1]
     refine ⟨?_, stpQ_ok hs⟩
     rcases ht : stuQ y n with _ | u
     · show printedB ⟨#[63]⟩ = true
       decide +kernel
     · exact pr_stuO ht
 · cases h
theorem pr_rep {q s : Sch4} {line t : ByteArray} (hq : schQ q = true) (h : repO q line = some (s, t)) : printedB t = true ∧ schQ s = true := by
 unfold repO at h
 split at h
 · obtain ⟨h1, rfl⟩ := pr_rep0 h; exact ⟨h1, hq⟩
 · exact pr_rep1 hq h
 · exact pr_rep2 h
 · cases h
theorem pr_cut {r : ByteArray} (h : printedB r = true) : printedB (cutT r) = true := by
 unfold cutT
 split
 · decide +kernel
 · exact h
def conQ (C : Con) : Bool := conB C.1.1 C.1.2.1 C.1.2.2.1 C.1.2.2.2 C.2.1 C.2.2.1 C.2.2.2
def recsQ (C : Con) : List CR := lrL C.2.1 C.2.2.1 C.2.2.2
theorem conQ_parts {q : Sch4} {d p : ByteArray} {z : Int} (h : conQ (q, d, p, z) = true) : schQ q = true ∧ logB d p z = true := by
 simpa [conQ, conB, schQ] using h
/-- a command that is recorded -/
structure Kept (q : Sch4) (d p : ByteArray) (z : Int) (line T : ByteArray) (Q : Sch4) : Prop where
 old : conQ (q, d, p, z) = true
 z60 : z < 60
 z0 : 0 ≤ z
 good : recB line T = true
 new : conQ (Q, d, p ++ lineB z line T, z + 1) = true
 recs : recsQ (Q, d, p ++ lineB z line T, z + 1) = recsQ (q, d, p, z) ++ [(line, T)]
theorem log_more {d p : ByteArray} {z : Int} {c r : ByteArray} (hl : logB d p z = true) (hr : recB c r = true) (hz : z ≤ 59) : logB d (p ++ lineB z c r) (z + 1) = true ∧ lrL d (p ++ lineB z c r) (z + 1) = lrL d p z ++ [(c, r)] := by
 obtain ⟨h1, h2, h3⟩ := logB_parts hl
 have hsz := logB_size hl
 obtain ⟨N, hN⟩ : ∃ N, (recL (d ++ p)).length = N := ⟨_, rfl⟩
 rw [hN] at h3
 have h6 := append_rec (k := N) (by rw [ByteArray.size_append]; exact h1) hN (by omega) hr
 rw [← h3, ByteArray.append_assoc] at h6
 obtain ⟨e1, e2⟩ := h6
 have hv : logB d (p ++ lineB z c r) (z + 1) = true := by
  rw [logB, e1, e2, h2, List.length_append, hN, h3]
  simp [ByteArray.size_append]
 exact ⟨hv, by rw [lrL, if_pos hv, lrL, if_pos hl, e1]⟩
theorem lr_len {d p : ByteArray} {z : Int} (hl : logB d p z = true) : z = ((lrL d p z).length : Int) := by
 rw [lrL, if_pos hl]
 exact (logB_parts hl).2.2
theorem ex_fact (q : Sch4) (d p : ByteArray) (z : Int) (line : ByteArray) :
 (exC (q, d, p, z) line = (q, d, p, z) ∧ (exR (q, d, p, z) line = ⟨#[110, 111]⟩ ∨ exR (q, d, p, z) line = ⟨#[98, 97, 100]⟩ ∨ exR (q, d, p, z) line = ⟨#[102, 117, 108, 108]⟩)) ∨
 (exC (q, d, p, z) line = (afQ q (repO q line), d, p ++ lineB z line (exR (q, d, p, z) line), z + 1) ∧ Kept q d p z line (exR (q, d, p, z) line) (afQ q (repO q line))) := by
 show (((exQ q d p z line, d, exP q d p z line, exZ q d p z line) : Con) = (q, d, p, z) ∧ (exT q d p z line = _ ∨ exT q d p z line = _ ∨ exT q d p z line = _)) ∨ (((exQ q d p z line, d, exP q d p z line, exZ q d p z line) : Con) = _ ∧ Kept q d p z line (exT q d p z line) _)
 refine ex_cases q d p z line (fun Q P Z T => (((Q, d, P, Z) : Con) = (q, d, p, z) ∧ (T = ⟨#[110, 111]⟩ ∨ T = ⟨#[98, 97, 100]⟩ ∨ T = ⟨#[102, 117, 108, 108]⟩)) ∨ (((Q, d, P, Z) : Con) = (afQ q (repO q line), d, p ++ lineB z line T, z + 1) ∧ Kept q d p z line T (afQ q (repO q line)))) ?_ ?_ ?_ ?_
 · intro _; exact .inl ⟨rfl, .inl rfl⟩
 · intro _ _; exact .inl ⟨rfl, .inr (.inl rfl)⟩
 · intro _ _ _; exact .inl ⟨rfl, .inr (.inr rfl)⟩
 · intro h1 h2 h3
   obtain ⟨hs, hl⟩ := conQ_parts (show conQ (q, d, p, z) = true from h1)
   have hz0 := (logB_count hl).1
   have hT : printedB (afT (repO q line)) = true ∧ schQ (afQ q (repO q line)) = true := by
    rcases hr : repO q line with _ | ⟨s, t⟩
    · exact ⟨by show printedB ⟨#[63]⟩ = true; decide +kernel, hs⟩
    · exact pr_rep hs hr
   have h4 := cutT_size (afT (repO q line))
   have h5 := pr_cut hT.1
   obtain ⟨c1, c2, _, c4, _, c6⟩ := rec_parts h2
   have hrec : recB line (cutT (afT (repO q line))) = true := by simp [recB, c1, c2, h4, c4, h5, c6]
   have hok : appOk d p z line (cutT (afT (repO q line))) = true := by simp [appOk, hl, hrec]
   have hcond : appOk d p z line (cutT (afT (repO q line))) = true ∧ z ≠ 60 := ⟨hok, by omega⟩
   obtain ⟨hv, he⟩ := log_more hl hrec (by omega)
   refine .inr ⟨by rw [appP, if_pos hcond, appZ, if_pos hcond], h1, h3, hz0, hrec, ?_, he⟩
   simp only [conQ, conB, Bool.and_eq_true]
   exact ⟨hT.2, hv⟩
theorem exC_d (q : Sch4) (d p : ByteArray) (z : Int) (line : ByteArray) : (exC (q, d, p, z) line).2.1 = d := rfl
end Go.Proofs.YtkcbgiegoadkbaaGreat
namespace Go.Proofs.YtkcbgiegoadkbaaGreat
open Go.RowKit
set_option linter.unusedVariables false
set_option linter.unusedSimpArgs false
theorem recF_mem (s : ByteArray) : ∀ (f a k : Nat) (r : ByteArray × ByteArray), r ∈ (recF s f a k).1 → recB r.1 r.2 = true := by
 intro f
 induction f with
 | zero => intro a k r h; simp [recF] at h
 | succ f ih =>
   intro a k r h
   unfold recF at h
   split at h
   · rename_i hs
     simp only [stepB, dOk, Bool.and_eq_true] at hs
     rcases List.mem_cons.1 h with rfl | h
     · show recB (dC k (ln s a)) (dR k (ln s a)) = true
       unfold dC dR
       rw [if_pos hs.2.1.1, if_pos hs.2.1.1]
       exact hs.2.1.2
     · exact ih _ _ _ h
   · simp at h
theorem lrL_mem (d p : ByteArray) (z : Int) : ∀ r ∈ lrL d p z, recB r.1 r.2 = true := by
 intro r h
 unfold lrL at h
 split at h
 · exact recF_mem _ _ _ _ r h
 · simp at h
def stTo (c0 : Con) (rs : List CR) (k : Nat) : Con := (rs.take k).foldl (fun c r => exC c r.1) c0
theorem stTo_zero (c0 : Con) (rs : List CR) : stTo c0 rs 0 = c0 := by simp [stTo]
theorem stTo_succ {c0 C : Con} {rs : List CR} {k : Nat} {r : CR} (h : stTo c0 rs k = C) (hr : rs[k]? = some r) : stTo c0 rs (k + 1) = exC C r.1 := by
 unfold stTo at *
 rw [List.take_add_one, hr, List.foldl_append, h]
 rfl
/-- the index of the first record whose reply differs, or their number -/
def rpl : Con → List CR → Nat
 | _, [] => 0
 | c, r :: rs => if exR c r.1 = r.2 then rpl (exC c r.1) rs + 1 else 0
theorem rpl_step {C : Con} {rs : List CR} {k : Nat} {r : CR} (hr : rs[k]? = some r) : rpl C (rs.drop k) = if exR C r.1 = r.2 then rpl (exC C r.1) (rs.drop (k + 1)) + 1 else 0 := by
 have hk := (List.getElem?_eq_some_iff.1 hr)
 obtain ⟨hlt, he⟩ := hk
 rw [List.drop_eq_getElem_cons hlt, he]
 rfl
theorem rpl_le : ∀ (rs : List CR) (c : Con), rpl c rs ≤ rs.length := by
 intro rs
 induction rs with
 | nil => intro c; exact Nat.le_refl _
 | cons r rs ih =>
   intro c
   unfold rpl
   split
   · have := ih (exC c r.1); simp; omega
   · simp
theorem st_inv {c0 : Con} {rs : List CR} : ∀ (k : Nat) (C : Con), stTo c0 rs k = C → k ≤ rs.length → C.2.1 = c0.2.1 ∧ C.2.2.1.size ≤ c0.2.2.1.size + k * 405 ∧ (C.1.2.1.length ≤ c0.1.2.1.length ∨ C.1.2.1.length ≤ 8) := by
 intro k
 induction k with
 | zero =>
   intro C h _
   rw [stTo_zero] at h
   subst h
   exact ⟨rfl, by omega, .inl (Nat.le_refl _)⟩
 | succ k ih =>
   intro C h hk
   obtain ⟨r, hr⟩ := list_split (l := rs) (k := k) (by omega)
   obtain ⟨C', hp⟩ : ∃ C', stTo c0 rs k = C' := ⟨_, rfl⟩
   rw [stTo_succ hp hr] at h
   subst h
   obtain ⟨i2, i3, i4⟩ := ih _ hp (by omega)
   have h3 := exP_size C'.1 C'.2.1 C'.2.2.1 C'.2.2.2 r.1
   have h4 := exQ_len C'.1 C'.2.1 C'.2.2.1 C'.2.2.2 r.1
   refine ⟨i2, ?_, ?_⟩
   · show (exP C'.1 C'.2.1 C'.2.2.1 C'.2.2.2 r.1).size ≤ _
     omega
   · show (exQ C'.1 C'.2.1 C'.2.2.1 C'.2.2.2 r.1).2.1.length ≤ _ ∨ (exQ C'.1 C'.2.1 C'.2.2.1 C'.2.2.2 r.1).2.1.length ≤ 8
     omega
abbrev con0 (day : Int) : Con := ((day, [], 0, 0), ⟨#[]⟩, ⟨#[]⟩, 0)
/-- what ReplayLog answers -/
def rplN (day : Int) (d p : ByteArray) (z : Int) : Nat := if inB day 0 4000 = true ∧ logB d p z = true then rpl (con0 day) (lrL d p z) else 0
def rplB (day : Int) (d p : ByteArray) (z : Int) : Bool := inB day 0 4000 && logB d p z
def RetRpl (n : Nat) (ok : Bool) (w : World) (e : Ending) (w' : World) : Prop := e = .returned (.tuple #[.int .i64 (n : Int), .bool ok]) ∧ Below w.heap.size w w'
end Go.Proofs.YtkcbgiegoadkbaaGreat
namespace Go.Proofs.YtkcbgiegoadkbaaGreat
open Go.RowKit
set_option linter.unusedVariables false
set_option linter.unusedSimpArgs false
def runL (C : Con) (rs : List CR) : Con := rs.foldl (fun c r => exC c r.1) C
theorem runL_more (C : Con) (rs : List CR) (r : CR) : runL C (rs ++ [r]) = exC (runL C rs) r.1 := by
 unfold runL
 rw [List.foldl_append]
 rfl
theorem rpl_more : ∀ (rs : List CR) (C : Con) (r : CR), rpl C rs = rs.length → exR (runL C rs) r.1 = r.2 → rpl C (rs ++ [r]) = rs.length + 1 := by
 intro rs
 induction rs with
 | nil =>
   intro C r _ h
   show (if exR C r.1 = r.2 then rpl (exC C r.1) [] + 1 else 0) = _
   rw [if_pos (show exR C r.1 = r.2 from h)]
   rfl
 | cons x rs ih =>
   intro C r h h2
   have h : (if exR C x.1 = x.2 then rpl (exC C x.1) rs + 1 else 0) = rs.length + 1 := h
   show (if exR C x.1 = x.2 then rpl (exC C x.1) (rs ++ [r]) + 1 else 0) = rs.length + 1 + 1
   by_cases he : exR C x.1 = x.2
   · rw [if_pos he] at h
     rw [if_pos he, ih (exC C x.1) r (by omega) h2]
   · rw [if_neg he] at h
     omega
theorem rpl_pre : ∀ (rs m : List CR) (C : Con), rpl C (rs ++ m) = (rs ++ m).length → rpl C rs = rs.length := by
 intro rs
 induction rs with
 | nil => intro m C _; rfl
 | cons x rs ih =>
   intro m C h
   have h : (if exR C x.1 = x.2 then rpl (exC C x.1) (rs ++ m) + 1 else 0) = (rs ++ m).length + 1 := h
   show (if exR C x.1 = x.2 then rpl (exC C x.1) rs + 1 else 0) = rs.length + 1
   by_cases he : exR C x.1 = x.2
   · rw [if_pos he] at h
     rw [if_pos he, ih m (exC C x.1) (by omega)]
   · rw [if_neg he] at h
     omega
/-- a console that came of a new one -/
structure Came (day : Int) (C : Con) : Prop where
 dayB : inB day 0 4000 = true
 ok : conQ C = true
 d : C.2.1 = ⟨#[]⟩
 run : runL (con0 day) (recsQ C) = C
 rpl : rpl (con0 day) (recsQ C) = (recsQ C).length
theorem logB_new : logB ⟨#[]⟩ ⟨#[]⟩ 0 = true := by decide +kernel
theorem lrL_new : lrL ⟨#[]⟩ ⟨#[]⟩ 0 = [] := by decide +kernel
theorem came0 {day : Int} (h : inB day 0 4000 = true) : Came day (con0 day) := by
 have hr : recsQ (con0 day) = [] := lrL_new
 refine ⟨h, ?_, rfl, by rw [hr]; rfl, by rw [hr]; rfl⟩
 simp only [conQ, conB, schB, h, logB_new]
 first | rfl | decide +revert
theorem came_step {day : Int} {C : Con} (h : Came day C) (line : ByteArray) : Came day (exC C line) := by
 obtain ⟨q, d, p, z⟩ := C
 rcases ex_fact q d p z line with ⟨e, _⟩ | ⟨e, hk⟩
 · rw [e]; exact h
 · have hr : runL (con0 day) (recsQ (q, d, p, z)) = (q, d, p, z) := h.run
   refine ⟨h.dayB, ?_, h.d, ?_, ?_⟩
   · rw [e]; exact hk.new
   · rw [e, hk.recs, runL_more, hr]
     exact e
   · rw [e, hk.recs]
     rw [rpl_more _ _ _ h.rpl (by rw [hr]), List.length_append]
     rfl
theorem came_replays {day : Int} {q : Sch4} {d p : ByteArray} {z : Int} (h : Came day (q, d, p, z)) : rplB day d p z = true ∧ (rplN day d p z : Int) = z := by
 obtain ⟨_, hl⟩ := conQ_parts h.ok
 have hr : rpl (con0 day) (lrL d p z) = (lrL d p z).length := h.rpl
 refine ⟨by simp [rplB, h.dayB, hl], ?_⟩
 rw [rplN, if_pos ⟨h.dayB, hl⟩, hr]
 exact (lr_len hl).symm
theorem cut_replays {day : Int} {q : Sch4} {d p : ByteArray} {z : Int} (h : Came day (q, d, p, z)) {K : Nat} (hK : K ≤ p.size) {S : ByteArray} (hS : crashT d p K false = S) :
 S.size ≤ 24300 ∧ rplB day (rcvD S) ⟨#[]⟩ (rcvN S : Int) = true ∧ rplN day (rcvD S) ⟨#[]⟩ (rcvN S : Int) = rcvN S ∧ (rcvD S).size ≤ 24300 := by
 obtain ⟨_, hl⟩ := conQ_parts h.ok
 obtain ⟨⟨m, hm⟩, h2, h3⟩ := crash_facts hl hK false
 rw [hS] at hm h2 h3
 have hE := recE_le S
 have hval := rcv_valid (t := S) (by omega)
 have e : ∀ s : ByteArray, s ++ ⟨#[]⟩ = s := fun s => by apply bl_inj; rw [bl_append]; simp [bl]
 have eD : rcvD S = S.extract 0 (recE S) := if_pos (by omega)
 have eN : rcvN S = (recL S).length := if_pos (by omega)
 have zD : (S.extract 0 (recE S)).size ≤ 24300 := by rw [extract_size _ _ _ hE]; omega
 have hr : rpl (con0 day) (lrL d p z) = (lrL d p z).length := h.rpl
 rw [lrL, if_pos hl, hm] at hr
 have hp := rpl_pre _ _ _ hr
 have hL : lrL (rcvD S) ⟨#[]⟩ (rcvN S : Int) = recL S := by rw [lrL, if_pos hval.1, e, eD, (rec_fix S).1]
 refine ⟨h3, by simp [rplB, h.dayB, hval.1], ?_, by rw [eD]; exact zD⟩
 rw [rplN, if_pos ⟨h.dayB, hval.1⟩, hL, hp, eN]
end Go.Proofs.YtkcbgiegoadkbaaGreat
namespace Go.Proofs.YtkcbgiegoadkbaaGreat
open Go.RowKit
set_option linter.unusedVariables false
set_option linter.unusedSimpArgs false
end Go.Proofs.YtkcbgiegoadkbaaGreat
namespace Go.Proofs.YtkcbgiegoadkbaaGreat
open Go.RowKit
set_option linter.unusedVariables false
set_option linter.unusedSimpArgs false
end Go.Proofs.YtkcbgiegoadkbaaGreat
namespace Go.Proofs.YtkcbgiegoadkbaaGreat
open Go.RowKit
set_option linter.unusedVariables false
set_option linter.unusedSimpArgs false
end Go.Proofs.YtkcbgiegoadkbaaGreat
namespace Go.Proofs.YtkcbgiegoadkbaaGreat
open Go.RowKit
set_option linter.unusedVariables false
set_option linter.unusedSimpArgs false
theorem tw_no {b : UInt8} : ∀ (l : List UInt8), b ∉ l.takeWhile (· != b) := by
 intro l
 induction l with
 | nil => simp
 | cons c l ih =>
   by_cases h : c = b
   · simp [List.takeWhile_cons, h]
   · simp only [List.takeWhile_cons]
     have : (c != b) = true := by simpa using h
     rw [this]
     simp only [if_true, List.mem_cons, not_or]
     exact ⟨fun e => h e.symm, ih⟩
theorem splitL_first {b : UInt8} {l x : List UInt8} {rest : List (List UInt8)} (h : splitL b l = x :: rest) : splitL b x = [x] ∧ x.length ≤ l.length := by
 have h1 := splitL_head b l
 rw [h] at h1
 simp at h1
 have hb : b ∉ x := by
  rw [h1]
  exact tw_no l
 have hl : x.length ≤ l.length := by rw [h1]; exact (List.takeWhile_sublist _).length_le
 refine ⟨?_, hl⟩
 have h2 := (splitL_one b x).2 hb
 have h3 := splitL_head b x
 rcases hp : splitL b x with _ | ⟨y, _ | ⟨z, t⟩⟩
 · rw [hp] at h3; simp at h3
 · rw [splitL_single hp]
 · rw [hp] at h2; simp at h2
theorem scr_fold : ∀ (W : List (List UInt8)) (s : Con × List ByteArray), ∃ m, (W.foldl scrStep s).2 = s.2 ++ m := by
 intro W
 induction W with
 | nil => intro s; exact ⟨[], by simp⟩
 | cons x W ih =>
   intro s
   obtain ⟨m, hm⟩ := ih (scrStep s x)
   refine ⟨exR s.1 (str x) :: m, ?_⟩
   rw [List.foldl_cons, hm]
   simp [scrStep]
theorem sc_first {C : Con} {text : ByteArray} {x : List UInt8} {rest : List (List UInt8)} (h : (scO C text).isSome = true) (hx : splitL 10 (bl text) = x :: rest) :
 (scO C (str x)).isSome = true ∧ scR C (str x) = [exR C (str x)] ∧ (scR C text)[0]? = some (exR C (str x)) := by
 have hc : conB C.1.1 C.1.2.1 C.1.2.2.1 C.1.2.2.2 C.2.1 C.2.2.1 C.2.2.2 = true ∧ (splitL 10 (bl text)).length ≤ 30 ∧ text.size ≤ 4000 := by
  unfold scO at h
  split at h
  · assumption
  · cases h
 obtain ⟨h1, h2⟩ := splitL_first hx
 rw [bl_size] at h2
 have hsz : (str x).size ≤ 4000 := by rw [← bl_size, bl_str]; omega
 have e1 : scO C (str x) = some [exR C (str x)] := by
  unfold scO
  rw [bl_str, h1, if_pos ⟨hc.1, by simp, hsz⟩]
  rfl
 refine ⟨by rw [e1]; rfl, by rw [scR, e1]; rfl, ?_⟩
 unfold scR scO
 rw [if_pos hc, hx]
 unfold scrTo
 rw [List.take_length, List.foldl_cons]
 obtain ⟨m, hm⟩ := scr_fold rest (scrStep (C, []) x)
 show ((rest.foldl scrStep (scrStep (C, []) x)).2)[0]? = _
 rw [hm]
 rfl
theorem sc_none {C : Con} {text : ByteArray} (h : (scO C text).isSome = false) : scR C text = [] := by
 unfold scR
 rcases hs : scO C text with _ | L
 · rfl
 · rw [hs] at h; cases h
end Go.Proofs.YtkcbgiegoadkbaaGreat
