/- A law's argument that is a code. -/
import Derived.Test.YtfmenkhfhibmeaaVLaw
import Derived.Test.YtfmenkhfhibmeaaVM1
import Derived.Test.YtfmenkhfhibmeaaVFrP
import Derived.Test.YtfmenkhfhibmeaaVBase
namespace Go.Proofs.Ytfmenkhfhibmeaa
open Go.ChangeShapes Go.WideShapes Go.ChangeAt Go.RowKit Go.Deep Go.Joins
set_option maxRecDepth 100000 in
theorem open_code {H : Type} {enc : TypeId × Value → H} {w : World} {base b0 : Nat} {spare : Nat → Bool} {held : Bool} {r : Reach} {v : Value} {d : DataW H} {p : List MemPlace}
 (hv : Value.okWide Try.prog w r b0 22 v) (h : DataW.Trod enc Try.prog w base spare held 22 v d p) :
 ∃ (A : Option Addr) (n c : Nat), v = .slice A n c ∧ n ≤ maxLen ∧ Code w w.heap.size A n := by
 obtain ⟨a0, len, cap, rfl⟩ := okWide_slice Try.underlying22 hv
 obtain ⟨fuel, hf⟩ := h
 rcases open_ints Try.underlying22 Try.underlying5 (by kernel_rfl) hf with ⟨hcs, _⟩ | ⟨a, len', cap', zs, hcs, hb, hl, hm, hz, hx, hc, hw⟩
 · have hcs : [Value.slice a0 len cap] = [.slice none 0 0] := by simpa [Value.cells] using hcs
   injection hcs with hcs _
   injection hcs with h1 h2 h3
   subst h1 h2 h3
   exact ⟨none, 0, 0, rfl, Nat.zero_le _, fun h => absurd h (by omega)⟩
 · have hcs : [Value.slice a0 len cap] = [.slice (some a) len' cap'] := by simpa [Value.cells] using hcs
   injection hcs with hcs _
   injection hcs with h1 h2 h3
   subst h1 h2 h3
   have hlz : len ≤ zs.length := by rw [hz]; split <;> omega
   refine ⟨some a, len, cap, rfl, by omega, fun h0 => ?_⟩
   have c0 := hc 0 (by omega)
   rw [show a.add 0 = a from by simp [Addr.add]] at c0
   obtain ⟨b, o, rfl⟩ := plain_of_cell c0
   refine ⟨b, o, rfl, World.block_lt_of_cell? w _ c0, fun i hi => ⟨zs.getD i 0, ?_, ?_⟩⟩
   · have := hc i (by omega)
     rwa [add_flat] at this
   · have hm2 : zs.getD i 0 ∈ zs := by
      simp only [List.getD]
      rw [List.getElem?_eq_getElem (by omega)]
      simp
     have := hw _ hm2
     simpa [Lit.wf, IntKind.min, IntKind.max, IntKind.signed, IntKind.bits] using this
end Go.Proofs.Ytfmenkhfhibmeaa
namespace Go.Proofs.Ytfmenkhfhibmeaa
open Go.RowKit
set_option linter.unusedVariables false
set_option linter.unusedSimpArgs false
theorem bl_getDx {s : ByteArray} {k : Nat} (h : k < s.size) : (bl s).getD k 0 = s[k]'h := by
 rw [List.getD_eq_getElem?_getD, List.getElem?_eq_getElem (by rw [bl_size]; exact h)]
 rfl
theorem str_sz (l : List UInt8) : (str l).size = l.length := rfl
def dgZ (z : Int) : UInt8 := dig z.toNat
theorem dgZ_nat {z : Int} (h : 0 ≤ z) (h2 : z ≤ 9) : ((dgZ z).toNat : Int) = 48 + z := by
 obtain ⟨n, rfl⟩ := Int.eq_ofNat_of_zero_le h
 have hn : n < 10 := by omega
 unfold dgZ dig
 rw [Int.toNat_natCast, UInt8.toNat_ofNat_of_lt' (show 48 + n < 256 by omega)]
 push_cast
 rfl
theorem dgZ_ne {z : Int} (h : 0 ≤ z) (h2 : z ≤ 9) : dgZ z ≠ 32 := by
 intro e
 have := dgZ_nat h h2
 rw [e] at this
 have h3 : ((32 : UInt8).toNat : Int) = 32 := rfl
 omega
def rodT (r : R2) : List UInt8 := [32, dgZ r.a, dgZ r.b]
def tF (u lo : Int) (l : List R2) : List UInt8 := [dgZ u, 47, dgZ lo] ++ l.flatMap rodT
def rd (b : List UInt8) (i : Nat) : Int := ((b.getD i 0).toNat : Int) - 48
def rdR (b : List UInt8) (i : Nat) : R2 := ⟨rd b (3 + i * 3 + 1), rd b (3 + i * 3 + 2)⟩
def rdL (b : List UInt8) (n : Nat) : List R2 := (List.range n).map (rdR b)
theorem rdL_len (b : List UInt8) (n : Nat) : (rdL b n).length = n := by simp [rdL]
theorem rdL_succ (b : List UInt8) (n : Nat) : rdL b (n + 1) = rdL b n ++ [rdR b n] := by unfold rdL; rw [List.range_succ, List.map_append]; rfl
theorem flat3_len : ∀ l : List R2, (l.flatMap rodT).length = l.length * 3 := by
 intro l
 induction l with
 | nil => rfl
 | cons x l ih => rw [List.flatMap_cons, List.length_append, ih, List.length_cons]; show 3 + _ = _; omega
theorem flat3_get : ∀ (l : List R2) (i j : Nat) (x : R2), l[i]? = some x → j < 3 → (l.flatMap rodT)[i * 3 + j]? = (rodT x)[j]? := by
 intro l
 induction l with
 | nil => intro i j x h; simp at h
 | cons y l ih =>
   intro i j x h hj
   rcases i with _ | i
   · simp at h; subst h
     rw [List.flatMap_cons, Nat.zero_mul, Nat.zero_add, List.getElem?_append_left (by show j < 3; exact hj)]
   · simp only [List.getElem?_cons_succ] at h
     rw [List.flatMap_cons, List.getElem?_append_right (by show 3 ≤ _; omega), show (i + 1) * 3 + j - (rodT y).length = i * 3 + j from by show (i + 1) * 3 + j - 3 = _; omega]
     exact ih i j x h hj
theorem tF_len (u lo : Int) (l : List R2) : (tF u lo l).length = 3 + l.length * 3 := by
 unfold tF
 rw [List.length_append, flat3_len]
 rfl
theorem tF_get (u lo : Int) {l : List R2} {i j : Nat} {x : R2} (hx : l[i]? = some x) (hj : j < 3) : (tF u lo l)[3 + i * 3 + j]? = (rodT x)[j]? := by
 unfold tF
 rw [List.getElem?_append_right (by simp; omega), show 3 + i * 3 + j - [dgZ u, 47, dgZ lo].length = i * 3 + j by simp; omega]
 exact flat3_get l i j x hx hj
theorem fr_small {u lo : Int} {l : List R2} (h : frB u lo l = true) : (0 ≤ u ∧ u ≤ 9) ∧ (0 ≤ lo ∧ lo ≤ 9) ∧ ∀ (k : Nat) (r : R2), l[k]? = some r → (0 ≤ r.a ∧ r.a ≤ 9) ∧ 0 ≤ r.b ∧ r.b ≤ 9 := by
 have h1 := frB_head h
 refine ⟨by omega, by omega, fun k r hr => ?_⟩
 have := frB_rod h hr
 omega
theorem rd_of {b : List UInt8} {i : Nat} {z : Int} (h : b[i]? = some (dgZ z)) (h0 : 0 ≤ z) (h9 : z ≤ 9) : rd b i = z := by
 unfold rd
 rw [List.getD_eq_getElem?_getD, h]
 show ((dgZ z).toNat : Int) - 48 = z
 rw [dgZ_nat h0 h9]
 omega
theorem tF_read {u lo : Int} {l : List R2} (h : frB u lo l = true) : rd (tF u lo l) 0 = u ∧ rd (tF u lo l) 2 = lo ∧ rdL (tF u lo l) l.length = l := by
 obtain ⟨h1, h2, h3⟩ := fr_small h
 refine ⟨rd_of rfl h1.1 h1.2, rd_of rfl h2.1 h2.2, ?_⟩
 apply List.ext_getElem?
 intro i
 by_cases hi : i < l.length
 · obtain ⟨x, hx⟩ : ∃ x, l[i]? = some x := ⟨_, List.getElem?_eq_getElem hi⟩
   have h4 := h3 i x hx
   rw [hx]
   unfold rdL
   rw [List.getElem?_map, List.getElem?_range hi]
   show some (rdR (tF u lo l) i) = some x
   congr 1
   rw [R2.eq_iff]
   exact ⟨rd_of (by rw [tF_get u lo hx (by decide)]; rfl) h4.1.1 h4.1.2, rd_of (by rw [tF_get u lo hx (by decide)]; rfl) h4.2.1 h4.2.2⟩
 · rw [List.getElem?_eq_none (by rw [rdL_len]; omega), List.getElem?_eq_none (by omega)]
/-- the frame that a text tells -/
def pfO (s : ByteArray) : Option (Int × Int × List R2) :=
 if 6 ≤ s.size ∧ s.size ≤ 27 ∧ s.size % 3 = 0 ∧ frB (rd (bl s) 0) (rd (bl s) 2) (rdL (bl s) (s.size / 3 - 1)) = true ∧ tF (rd (bl s) 0) (rd (bl s) 2) (rdL (bl s) (s.size / 3 - 1)) = bl s then some (rd (bl s) 0, rd (bl s) 2, rdL (bl s) (s.size / 3 - 1)) else none
theorem pf_iff {s : ByteArray} {u lo : Int} {l : List R2} : pfO s = some (u, lo, l) ↔ frB u lo l = true ∧ tF u lo l = bl s := by
 constructor
 · intro h
   unfold pfO at h
   split at h
   · rename_i hc
     injection h with h
     injection h with h1 h2
     injection h2 with h2 h3
     subst h1 h2 h3
     exact ⟨hc.2.2.2.1, hc.2.2.2.2⟩
   · cases h
 · rintro ⟨h1, h2⟩
   have hl := tF_len u lo l
   rw [h2, bl_size] at hl
   have hh := frB_head h1
   obtain ⟨r1, r2, r3⟩ := tF_read h1
   rw [h2] at r1 r2 r3
   have hn : s.size / 3 - 1 = l.length := by omega
   unfold pfO
   rw [hn, r1, r2, r3, if_pos ⟨by omega, by omega, by omega, h1, h2⟩]
/-- the words of a frame's text -/
theorem splitL_end {w : List UInt8} (h : (32 : UInt8) ∉ w) : splitL 32 w = [w] := by
 induction w with
 | nil => rfl
 | cons c w ih =>
   rw [List.mem_cons, not_or] at h
   rw [splitL_miss (fun e => h.1 e.symm), ih h.2]
   rfl
theorem splitL_word {w : List UInt8} (h : (32 : UInt8) ∉ w) (rest : List UInt8) : splitL 32 (w ++ 32 :: rest) = w :: splitL 32 rest := by
 induction w with
 | nil => exact splitL_hit 32 rest
 | cons c w ih =>
   rw [List.mem_cons, not_or] at h
   rw [List.cons_append, splitL_miss (fun e => h.1 e.symm), ih h.2]
   rfl
def wrdR (r : R2) : List UInt8 := [dgZ r.a, dgZ r.b]
theorem split_rods : ∀ (l : List R2) (w : List UInt8), (32 : UInt8) ∉ w → (∀ r ∈ l, (32 : UInt8) ∉ wrdR r) → splitL 32 (w ++ l.flatMap rodT) = w :: l.map wrdR := by
 intro l
 induction l with
 | nil => intro w hw _; rw [List.flatMap_nil, List.append_nil]; exact splitL_end hw
 | cons r l ih =>
   intro w hw hl
   rw [List.flatMap_cons, show rodT r ++ l.flatMap rodT = 32 :: (wrdR r ++ l.flatMap rodT) from rfl, splitL_word hw, ih (wrdR r) (hl r (List.mem_cons_self ..)) (fun x hx => hl x (List.mem_cons_of_mem _ hx))]
   rfl
theorem tF_words {u lo : Int} {l : List R2} (h : frB u lo l = true) : splitL 32 (tF u lo l) = [dgZ u, 47, dgZ lo] :: l.map wrdR := by
 obtain ⟨h1, h2, h3⟩ := fr_small h
 unfold tF
 refine split_rods l _ ?_ ?_
 · intro e
   simp only [List.mem_cons, List.not_mem_nil, or_false] at e
   rcases e with e | e | e
   · exact dgZ_ne h1.1 h1.2 e.symm
   · exact absurd e (by decide)
   · exact dgZ_ne h2.1 h2.2 e.symm
 · intro r hr e
   obtain ⟨k, hk⟩ := List.mem_iff_getElem?.1 hr
   have h4 := h3 k r hk
   simp only [wrdR, List.mem_cons, List.not_mem_nil, or_false] at e
   rcases e with e | e
   · exact dgZ_ne h4.1.1 h4.1.2 e.symm
   · exact dgZ_ne h4.2.1 h4.2.2 e.symm
/-- what a word tells -/
def rdW (w : List UInt8) : R2 := ⟨rd w 0, rd w 1⟩
theorem rdW_wrd {u lo : Int} {l : List R2} (h : frB u lo l = true) : (l.map wrdR).map rdW = l := by
 obtain ⟨_, _, h3⟩ := fr_small h
 rw [List.map_map]
 conv => rhs; rw [← List.map_id l]
 refine List.map_congr_left fun r hr => ?_
 obtain ⟨k, hk⟩ := List.mem_iff_getElem?.1 hr
 have h4 := h3 k r hk
 show rdW (wrdR r) = r
 rw [R2.eq_iff]
 exact ⟨rd_of rfl h4.1.1 h4.1.2, rd_of rfl h4.2.1 h4.2.2⟩
/-- the reference's way through the words -/
theorem pf_words {s : ByteArray} {u lo : Int} {l : List R2} (h : pfO s = some (u, lo, l)) : splitL 32 (bl s) = [dgZ u, 47, dgZ lo] :: l.map wrdR ∧ l.length ≤ 8 ∧ 1 ≤ l.length := by
 obtain ⟨h1, h2⟩ := pf_iff.1 h
 rw [← h2]
 exact ⟨tF_words h1, (frB_head h1).2.2.2, (frB_head h1).2.2.1⟩
theorem pf_none_of {s : ByteArray} (h : ∀ u lo l, pfO s = some (u, lo, l) → False) : pfO s = none := by
 cases hp : pfO s with
 | none => rfl
 | some x => exact absurd hp fun e => h x.1 x.2.1 x.2.2 e
end Go.Proofs.Ytfmenkhfhibmeaa
namespace Go.Proofs.Ytfmenkhfhibmeaa
open Go.RowKit
set_option linter.unusedVariables false
set_option linter.unusedSimpArgs false
/-- the kind of the rule for adding d to v -/
def kindO (v d : Int) : Nat := if v % 5 + d ≤ 4 ∨ (5 ≤ d ∧ v ≤ 4 ∧ v + d - 5 ≤ 4) then 0 else if v + d ≤ 9 then 1 else if (10 - d) % 5 ≤ v % 5 ∧ (5 ≤ v ∨ 10 - d < 5) then 2 else 3
theorem kindO_lt (v d : Int) : kindO v d < 4 := by unfold kindO; split; omega; split; omega; split <;> omega
/-- how many digits of each kind among the first k rods -/
def cntN (n : Nat) (m : Int) (s : WS) : Nat → List Int
 | 0 => [0, 0, 0, 0]
 | k + 1 => if 0 < dg n m k then (cntN n m s k).set (kindO ((addN n m s k).ds.getD k 0) (dg n m k)) ((cntN n m s k).getD (kindO ((addN n m s k).ds.getD k 0) (dg n m k)) 0 + 1) else cntN n m s k
theorem cntN_len (n : Nat) (m : Int) (s : WS) (k : Nat) : (cntN n m s k).length = 4 := by
 induction k with
 | zero => rfl
 | succ k ih => unfold cntN; split <;> simp [ih]
theorem cntN_le (n : Nat) (m : Int) (s : WS) (k : Nat) : ∀ c ∈ cntN n m s k, 0 ≤ c ∧ c ≤ k := by
 induction k with
 | zero => intro c hc; simp [cntN] at hc; omega
 | succ k ih =>
   intro c hc
   unfold cntN at hc
   split at hc
   · rcases List.mem_or_eq_of_mem_set hc with hc | rfl
     · have := ih c hc; omega
     · have hj : (cntN n m s k).length = 4 := cntN_len n m s k
       have hk := kindO_lt ((addN n m s k).ds.getD k 0) (dg n m k)
       rw [List.getD_eq_getElem?_getD, List.getElem?_eq_getElem (by omega)]
       have := ih _ (List.getElem_mem (l := cntN n m s k) (n := kindO ((addN n m s k).ds.getD k 0) (dg n m k)) (by omega))
       simp only [Option.getD_some]
       omega
   · have := ih c hc; omega
end Go.Proofs.Ytfmenkhfhibmeaa
namespace Go.Proofs.Ytfmenkhfhibmeaa
open Go.RowKit
set_option linter.unusedVariables false
set_option linter.unusedSimpArgs false
abbrev Wds := List (List UInt8)
theorem wcell_at {w : World} {B n b o : Nat} {P : List (List UInt8)} (h : Reads w B 1 (some ⟨b, o, none⟩) n (strsV P)) {k : Nat} {x : List UInt8} (hx : P[k]? = some x) :
 w.cell? ⟨b, o + k, none⟩ = some (.string (str x)) ∧ b < B := by
 have hk : k < P.length := (List.getElem?_eq_some_iff.1 hx).1
 have hn : P.length = n * 1 := by have := h.1; simpa [strsV] using this
 obtain ⟨b', o', hA, hb, hc⟩ := h.2 (by omega)
 injection hA with hA
 injection hA with h1 h2
 subst h1 h2
 exact ⟨hc _ _ (by simp [strsV, hx]), hb⟩
theorem words_some {w : World} {B n : Nat} {A : Option Addr} {P : List (List UInt8)} (h : Reads w B 1 A n (strsV P)) (h0 : 0 < P.length) : ∃ b o, A = some ⟨b, o, none⟩ := by
 have hn : P.length = n * 1 := by have := h.1; simpa [strsV] using this
 obtain ⟨b', o', hA, _, _⟩ := h.2 (by omega)
 exact ⟨b', o', hA⟩
theorem words_n {w : World} {B n : Nat} {A : Option Addr} {P : List (List UInt8)} (h : Reads w B 1 A n (strsV P)) : P.length = n := by
 have := h.1; simpa [strsV] using this
theorem pf_shape {s : ByteArray} {w0 : List UInt8} {ws : List (List UInt8)} {u lo : Int} {l : List R2} (hW : splitL 32 (bl s) = w0 :: ws) (h : pfO s = some (u, lo, l)) : w0.length = 3 ∧ ws.length ≤ 8 ∧ (∀ x ∈ ws, x.length = 2) ∧ rd w0 0 = u ∧ rd w0 2 = lo ∧ ws.map rdW = l := by
 obtain ⟨h1, h2⟩ := pf_iff.1 h
 obtain ⟨h3, h4, h5⟩ := pf_words h
 obtain ⟨f1, f2, f3⟩ := fr_small h1
 rw [hW] at h3
 injection h3 with h3 h6
 subst h3 h6
 exact ⟨rfl, by simpa using h4, fun x hx => by obtain ⟨r, _, rfl⟩ := List.mem_map.1 hx; rfl, rd_of rfl f1.1 f1.2, rd_of rfl f2.1 f2.2, rdW_wrd h1⟩
theorem pf_end {s : ByteArray} {w0 : List UInt8} {ws : List (List UInt8)} (hW : splitL 32 (bl s) = w0 :: ws) : pfO s = if frB (rd w0 0) (rd w0 2) (ws.map rdW) = true ∧ tF (rd w0 0) (rd w0 2) (ws.map rdW) = bl s then some (rd w0 0, rd w0 2, ws.map rdW) else none := by
 by_cases h : frB (rd w0 0) (rd w0 2) (ws.map rdW) = true ∧ tF (rd w0 0) (rd w0 2) (ws.map rdW) = bl s
 · rw [if_pos h, pf_iff]
   exact h
 · rw [if_neg h]
   refine pf_none_of fun u lo l hp => h ?_
   obtain ⟨_, _, _, h4, h5, h6⟩ := pf_shape hW hp
   rw [h4, h5, h6]
   exact pf_iff.1 hp
theorem pf_no3 {s : ByteArray} {w0 : List UInt8} {ws : List (List UInt8)} (hW : splitL 32 (bl s) = w0 :: ws) (h : w0.length ≠ 3) : pfO s = none := pf_none_of fun _ _ _ hp => h (pf_shape hW hp).1
theorem pf_no9 {s : ByteArray} {w0 : List UInt8} {ws : List (List UInt8)} (hW : splitL 32 (bl s) = w0 :: ws) (h : 8 < ws.length) : pfO s = none := pf_none_of fun _ _ _ hp => by have := (pf_shape hW hp).2.1; omega
theorem pf_no2 {s : ByteArray} {w0 : List UInt8} {ws : List (List UInt8)} (hW : splitL 32 (bl s) = w0 :: ws) {k : Nat} {x : List UInt8} (hx : ws[k]? = some x) (h : x.length ≠ 2) : pfO s = none := pf_none_of fun _ _ _ hp => h ((pf_shape hW hp).2.2.1 x (List.mem_of_getElem? hx))
end Go.Proofs.Ytfmenkhfhibmeaa
