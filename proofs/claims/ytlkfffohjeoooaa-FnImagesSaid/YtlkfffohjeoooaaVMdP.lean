/- Minds, plainly: what fades, what a step makes. -/
import Derived.Test.YtlkfffohjeoooaaVMdA
import Derived.Test.YtlkfffohjeoooaaVM7
namespace Go.Proofs.Ytlkfffohjeoooaa
open Go.RowKit
set_option linter.unusedVariables false
set_option linter.unusedSimpArgs false
def mk (n : Nat) (f : Nat → Int) : List Int := (List.range n).map f
theorem mk_len (n : Nat) (f : Nat → Int) : (mk n f).length = n := by simp [mk]
theorem mk_get {n : Nat} {f : Nat → Int} {k : Nat} (h : k < n) : (mk n f)[k]? = some (f k) := by simp [mk, h]
theorem mk_getD {n : Nat} {f : Nat → Int} {k : Nat} (h : k < n) : (mk n f).getD k 0 = f k := by rw [List.getD_eq_getElem?_getD, mk_get h]; rfl
theorem mk_congr {n : Nat} {f g : Nat → Int} (h : ∀ k, k < n → f k = g k) : mk n f = mk n g := by
 unfold mk
 exact List.map_congr_left fun k hk => h k (List.mem_range.1 hk)
theorem list_mk {l : List Int} {n : Nat} {f : Nat → Int} (hl : l.length = n) (h : ∀ k, k < n → l[k]? = some (f k)) : l = mk n f := by
 apply List.ext_getElem?
 intro k
 by_cases hk : k < n
 · rw [h k hk, mk_get hk]
 · rw [List.getElem?_eq_none (by omega), List.getElem?_eq_none (by rw [mk_len]; omega)]
theorem mk_self (l : List Int) : mk l.length (fun k => l.getD k 0) = l := by
 refine (list_mk rfl fun k hk => ?_).symm
 obtain ⟨a, ha⟩ := list_split (l := l) (k := k) hk
 rw [ha, List.getD_eq_getElem?_getD, ha]; rfl
theorem mk_set {n i : Nat} {f g : Nat → Int} {v : Int} (hi : i < n) (hv : v = g i) (h : ∀ k, k < n → k ≠ i → f k = g k) : (mk n f).set i v = mk n g := by
 refine list_mk (by rw [List.length_set, mk_len]) fun k hk => ?_
 by_cases e : k = i
 · subst e
   rw [List.getElem?_set_self (by rw [mk_len]; exact hk), hv]
 · rw [List.getElem?_set_ne (fun x => e x.symm), mk_get hk, h k hk e]
/-- what is left of a rod, and what is remembered of it -/
def fdC (b ex : Int) (k : Nat) (c d : Int) : Int := if (k : Int) = ex ∨ d < 0 then c else max 0 (c - b)
def fdI (b ex : Int) (k : Nat) (c d : Int) : Int := if (k : Int) = ex ∨ d < 0 then d else if max 0 (c - b) = 0 then -1 else d
def fCto (b ex : Int) (cl im : List Int) (n i : Nat) : List Int := mk n fun k => if k < i then fdC b ex k (cl.getD k 0) (im.getD k 0) else cl.getD k 0
def fIto (b ex : Int) (cl im : List Int) (n i : Nat) : List Int := mk n fun k => if k < i then fdI b ex k (cl.getD k 0) (im.getD k 0) else im.getD k 0
theorem getD_of {l : List Int} {k : Nat} {a : Int} (h : l[k]? = some a) : l.getD k 0 = a := by rw [List.getD_eq_getElem?_getD, h]; rfl
theorem fCto_zero (b ex : Int) {cl im : List Int} {n : Nat} (h : cl.length = n) : fCto b ex cl im n 0 = cl := by
 subst h
 unfold fCto
 simp only [Nat.not_lt_zero, if_false]
 exact mk_self cl
theorem fIto_zero (b ex : Int) {cl im : List Int} {n : Nat} (h : im.length = n) : fIto b ex cl im n 0 = im := by
 subst h
 unfold fIto
 simp only [Nat.not_lt_zero, if_false]
 exact mk_self im
theorem fCto_get (b ex : Int) {cl im : List Int} {n i : Nat} {c : Int} (hi : i < n) (hc : cl[i]? = some c) : (fCto b ex cl im n i)[i]? = some c := by
 unfold fCto
 rw [mk_get hi, if_neg (Nat.lt_irrefl i), getD_of hc]
theorem fIto_get (b ex : Int) {cl im : List Int} {n i : Nat} {d : Int} (hi : i < n) (hd : im[i]? = some d) : (fIto b ex cl im n i)[i]? = some d := by
 unfold fIto
 rw [mk_get hi, if_neg (Nat.lt_irrefl i), getD_of hd]
theorem fCto_set {b ex : Int} {cl im : List Int} {n i : Nat} {c d v : Int} (hi : i < n) (hc : cl[i]? = some c) (hd : im[i]? = some d) (hv : fdC b ex i c d = v) : (fCto b ex cl im n i).set i v = fCto b ex cl im n (i + 1) := by
 unfold fCto
 refine mk_set hi ?_ fun k hk hne => ?_
 · rw [if_pos (Nat.lt_succ_self i), getD_of hc, getD_of hd, hv]
 · by_cases h : k < i
   · rw [if_pos h, if_pos (by omega)]
   · rw [if_neg h, if_neg (by omega)]
theorem fIto_set {b ex : Int} {cl im : List Int} {n i : Nat} {c d v : Int} (hi : i < n) (hc : cl[i]? = some c) (hd : im[i]? = some d) (hv : fdI b ex i c d = v) : (fIto b ex cl im n i).set i v = fIto b ex cl im n (i + 1) := by
 unfold fIto
 refine mk_set hi ?_ fun k hk hne => ?_
 · rw [if_pos (Nat.lt_succ_self i), getD_of hc, getD_of hd, hv]
 · by_cases h : k < i
   · rw [if_pos h, if_pos (by omega)]
   · rw [if_neg h, if_neg (by omega)]
theorem set_same {l : List Int} {i : Nat} {a : Int} (h : l[i]? = some a) : l.set i a = l := by
 apply List.ext_getElem?
 intro k
 by_cases e : i = k
 · subst e
   rw [List.getElem?_set_self (List.getElem?_eq_some_iff.1 h).1, h]
 · rw [List.getElem?_set_ne e]
theorem fCto_skip {b ex : Int} {cl im : List Int} {n i : Nat} {c d : Int} (hi : i < n) (hc : cl[i]? = some c) (hd : im[i]? = some d) (hv : fdC b ex i c d = c) : fCto b ex cl im n i = fCto b ex cl im n (i + 1) := by
 rw [← fCto_set hi hc hd hv, set_same (fCto_get b ex hi hc)]
theorem fIto_skip {b ex : Int} {cl im : List Int} {n i : Nat} {c d : Int} (hi : i < n) (hc : cl[i]? = some c) (hd : im[i]? = some d) (hv : fdI b ex i c d = d) : fIto b ex cl im n i = fIto b ex cl im n (i + 1) := by
 rw [← fIto_set hi hc hd hv, set_same (fIto_get b ex hi hd)]
theorem fCto_len (b ex : Int) (cl im : List Int) (n i : Nat) : (fCto b ex cl im n i).length = n := mk_len _ _
theorem fIto_len (b ex : Int) (cl im : List Int) (n i : Nat) : (fIto b ex cl im n i).length = n := mk_len _ _
def fC (b ex : Int) (cl im : List Int) (n : Nat) : List Int := fCto b ex cl im n n
def fI (b ex : Int) (cl im : List Int) (n : Nat) : List Int := fIto b ex cl im n n
theorem fC_getD (b ex : Int) (cl im : List Int) {n k : Nat} (h : k < n) : (fC b ex cl im n).getD k 0 = fdC b ex k (cl.getD k 0) (im.getD k 0) := by
 unfold fC fCto
 rw [mk_getD h, if_pos h]
theorem fI_getD (b ex : Int) (cl im : List Int) {n k : Nat} (h : k < n) : (fI b ex cl im n).getD k 0 = fdI b ex k (cl.getD k 0) (im.getD k 0) := by
 unfold fI fIto
 rw [mk_getD h, if_pos h]
theorem rowM_iff {a b : Int} : rowM a b = true ↔ (-1 ≤ a ∧ a ≤ 9) ∧ (0 ≤ b ∧ b ≤ 5) ∧ (a < 0 ↔ b = 0) := by
 unfold rowM
 simp only [Bool.and_eq_true, inB_iff, beq_iff_eq, decide_eq_decide, and_assoc]
theorem rowsM_at {im cl : List Int} {k n : Nat} (h : rowsM im cl n = true) (hk : k < n) : rowM (im.getD k 0) (cl.getD k 0) = true := by
 unfold rowsM at h
 exact List.all_eq_true.1 h k (List.mem_range.2 hk)
theorem rowsM_of {im cl : List Int} {n : Nat} (h : ∀ k, k < n → rowM (im.getD k 0) (cl.getD k 0) = true) : rowsM im cl n = true := by
 unfold rowsM
 exact List.all_eq_true.2 fun k hk => h k (List.mem_range.1 hk)
theorem rowM_fade {b ex c d : Int} {k : Nat} (h : rowM d c = true) (hb : 0 ≤ b) : rowM (fdI b ex k c d) (fdC b ex k c d) = true := by
 rw [rowM_iff] at h ⊢
 unfold fdI fdC
 split
 · exact h
 · split <;> omega
theorem rowsM_fade {b ex : Int} {cl im : List Int} {n : Nat} (h : rowsM im cl n = true) (hb : 0 ≤ b) : rowsM (fI b ex cl im n) (fC b ex cl im n) n = true := by
 refine rowsM_of fun k hk => ?_
 rw [fI_getD _ _ _ _ hk, fC_getD _ _ _ _ hk]
 exact rowM_fade (rowsM_at h hk) hb
theorem fdC_go (b : Int) (k : Nat) {c d : Int} (h : d < 0) : fdC b (-1) k c d = c ∧ fdI b (-1) k c d = d := by
 unfold fdC fdI
 rw [if_pos (Or.inr h), if_pos (Or.inr h)]
 exact ⟨rfl, rfl⟩
theorem fdC_on (b : Int) (k : Nat) {c d : Int} (h : ¬ d < 0) : fdC b (-1) k c d = max 0 (c - b) ∧ fdI b (-1) k c d = if max 0 (c - b) = 0 then -1 else d := by
 unfold fdC fdI
 rw [if_neg (by omega), if_neg (by omega)]
 exact ⟨rfl, rfl⟩
/-- fading by j and once more -/
theorem fd_more (j k : Nat) {c d : Int} (h : rowM d c = true) : fdC 1 (-1) k (fdC j (-1) k c d) (fdI j (-1) k c d) = fdC ((j : Int) + 1) (-1) k c d ∧ fdI 1 (-1) k (fdC j (-1) k c d) (fdI j (-1) k c d) = fdI ((j : Int) + 1) (-1) k c d := by
 have hr := rowM_iff.1 h
 by_cases hd : d < 0
 · rw [(fdC_go j k hd).1, (fdC_go j k hd).2, (fdC_go 1 k hd).1, (fdC_go 1 k hd).2, (fdC_go _ k hd).1, (fdC_go _ k hd).2]
   exact ⟨rfl, rfl⟩
 · rw [(fdC_on j k hd).1, (fdC_on j k hd).2, (fdC_on ((j : Int) + 1) k hd).1, (fdC_on ((j : Int) + 1) k hd).2]
   by_cases h0 : max 0 (c - (j : Int)) = 0
   · rw [if_pos h0, h0, (fdC_go 1 k (by omega : (-1 : Int) < 0)).1, (fdC_go 1 k (by omega : (-1 : Int) < 0)).2]
     have : max 0 (c - ((j : Int) + 1)) = 0 := by omega
     rw [this]
     exact ⟨rfl, rfl⟩
   · rw [if_neg h0, (fdC_on 1 k hd).1, (fdC_on 1 k hd).2]
     have : max 0 (max 0 (c - (j : Int)) - 1) = max 0 (c - ((j : Int) + 1)) := by omega
     rw [this]
     exact ⟨rfl, rfl⟩
theorem fC_more {j : Nat} {cl im : List Int} {n : Nat} (h : rowsM im cl n = true) : fC 1 (-1) (fC j (-1) cl im n) (fI j (-1) cl im n) n = fC ((j : Int) + 1) (-1) cl im n := by
 refine (list_mk (fCto_len ..) fun k hk => ?_).trans (list_mk (f := fun k => fdC ((j : Int) + 1) (-1) k (cl.getD k 0) (im.getD k 0)) (fCto_len ..) fun k hk => ?_).symm
 · unfold fC fCto
   rw [mk_get hk, if_pos hk]
   have e1 := fC_getD (j : Int) (-1) cl im hk
   have e2 := fI_getD (j : Int) (-1) cl im hk
   unfold fC fCto at e1
   unfold fI at e2
   unfold fI
   rw [e1, e2, (fd_more j k (rowsM_at h hk)).1]
 · unfold fCto
   rw [mk_get hk, if_pos hk]
theorem fI_more {j : Nat} {cl im : List Int} {n : Nat} (h : rowsM im cl n = true) : fI 1 (-1) (fC j (-1) cl im n) (fI j (-1) cl im n) n = fI ((j : Int) + 1) (-1) cl im n := by
 refine (list_mk (fIto_len ..) fun k hk => ?_).trans (list_mk (f := fun k => fdI ((j : Int) + 1) (-1) k (cl.getD k 0) (im.getD k 0)) (fIto_len ..) fun k hk => ?_).symm
 · unfold fI fIto
   rw [mk_get hk, if_pos hk]
   have e1 := fC_getD (j : Int) (-1) cl im hk
   have e2 := fI_getD (j : Int) (-1) cl im hk
   unfold fC at e1
   unfold fI fIto at e2
   unfold fC
   rw [e1, e2, (fd_more j k (rowsM_at h hk)).2]
 · unfold fIto
   rw [mk_get hk, if_pos hk]
theorem fC_none {cl im : List Int} {n : Nat} (h : rowsM im cl n = true) (hl : cl.length = n) : fC 0 (-1) cl im n = cl := by
 unfold fC fCto
 refine (list_mk hl fun k hk => ?_).symm
 obtain ⟨a, ha⟩ := list_split (l := cl) (k := k) (by omega)
 have hr := rowM_iff.1 (rowsM_at h hk)
 rw [ha, if_pos hk, getD_of ha]
 rw [getD_of ha] at hr
 unfold fdC
 split
 · rfl
 · congr 1; omega
theorem fI_none {cl im : List Int} {n : Nat} (h : rowsM im cl n = true) (hl : im.length = n) : fI 0 (-1) cl im n = im := by
 unfold fI fIto
 refine (list_mk hl fun k hk => ?_).symm
 obtain ⟨a, ha⟩ := list_split (l := im) (k := k) (by omega)
 have hr := rowM_iff.1 (rowsM_at h hk)
 rw [ha, if_pos hk, getD_of ha]
 rw [getD_of ha] at hr
 unfold fdI
 split
 · rfl
 · split
   · exfalso; omega
   · rfl
/-- a mind -/
structure Md where
 u : Int
 lo : Int
 l : List R2
 cl : List Int
 im : List Int
 be : Int
 gu : Int
def mdOK (q : Md) : Bool := mindB q.u q.lo q.l q.cl q.im q.be q.gu
theorem mdOK_parts {q : Md} (h : mdOK q = true) : goodB q.u q.lo q.l = true ∧ q.im.length = q.l.length ∧ q.cl.length = q.l.length ∧ (0 ≤ q.be ∧ q.be ≤ 9999) ∧ (0 ≤ q.gu ∧ q.gu ≤ 9999) ∧ rowsM q.im q.cl q.l.length = true := by
 unfold mdOK mindB at h
 simp only [Bool.and_eq_true, decide_eq_true_eq, inB_iff] at h
 obtain ⟨⟨⟨⟨⟨h1, h2⟩, h3⟩, h4⟩, h5⟩, h6⟩ := h
 exact ⟨h1, h2, h3, h4, h5, h6⟩
/-- the first rod that is lost -/
def lostAt (im : List Int) : Nat := im.findIdx fun d => decide (d < 0)
def gdM (q : Md) : Option Md := if mdOK q = true then some q else none
def lkM (q : Md) : Md := ⟨q.u, q.lo, q.l, List.replicate q.l.length 5, dsOf q.l, q.be, q.gu⟩
def st1 (q : Md) (v : Int) : Option Md := if inB v 1 9 = true then gdM ⟨q.u, q.lo, q.l, fC v (-1) q.cl q.im q.l.length, fI v (-1) q.cl q.im q.l.length, q.be + v, q.gu⟩ else none
def st2 (q : Md) (v : Int) : Option Md := if v = 0 then gdM ⟨q.u, q.lo, q.l, List.replicate q.l.length 5, dsOf q.l, q.be + 3, q.gu⟩ else none
def st3 (q : Md) (v : Int) : Option Md := if inB v 0 ((q.l.length : Int) - 1) = true ∧ ¬ q.im.getD v.toNat 0 < 0 then gdM ⟨q.u, q.lo, q.l, (fC 1 v q.cl q.im q.l.length).set v.toNat 5, fI 1 v q.cl q.im q.l.length, q.be + 1, q.gu⟩ else none
def st4 (q : Md) (v : Int) : Option Md := if addNok q.u q.lo q.l v = true ∧ ¬ v < 1 then gdM ⟨q.u, q.lo, rodsD (addNst q.l v).ds, q.cl, q.im, q.be, q.gu⟩ else none
def st5 (q : Md) (v : Int) : Option Md := if lostAt q.im < q.l.length ∧ inB v 0 9 = true then gdM ⟨q.u, q.lo, q.l, q.cl.set (lostAt q.im) 1, q.im.set (lostAt q.im) v, q.be, q.gu + 1⟩ else none
def stM (q : Md) (k v : Int) : Option Md := if k = 1 then st1 q v else if k = 2 then st2 q v else if k = 3 then st3 q v else if k = 4 then st4 q v else if k = 5 then st5 q v else none
end Go.Proofs.Ytlkfffohjeoooaa
