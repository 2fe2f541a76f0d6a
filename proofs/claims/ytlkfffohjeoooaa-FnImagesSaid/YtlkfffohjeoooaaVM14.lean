/- What the law of images speaks of, plainly: beats left, lost rods, the text of a mind. -/
import Derived.Test.YtlkfffohjeoooaaVWrA
import Derived.Test.YtlkfffohjeoooaaVM10
import Derived.Test.YtlkfffohjeoooaaVM1
import Derived.Test.YtlkfffohjeoooaaVFdN
namespace Go.Proofs.Ytlkfffohjeoooaa
open Go.RowKit
set_option linter.unusedVariables false
set_option linter.unusedSimpArgs false
def btS (s c : Int) : Int := if 0 < c ∧ (s = 0 ∨ c < s) then c else s
def btL (cl : List Int) (k : Nat) : Int := (cl.take k).foldl btS 0
theorem btL_more {cl : List Int} {k : Nat} {c : Int} (h : cl[k]? = some c) : btL cl (k + 1) = btS (btL cl k) c := by
 unfold btL
 rw [List.take_add_one, h, List.foldl_append]
 rfl
theorem btL_take {cl : List Int} {k : Nat} {c : Int} (h : cl[k]? = some c) (hc : 0 < c) (hs : btL cl k = 0 ∨ c < btL cl k) : btL cl (k + 1) = c := by
 rw [btL_more h]; unfold btS; rw [if_pos ⟨hc, hs⟩]
theorem btL_skip {cl : List Int} {k : Nat} {c : Int} (h : cl[k]? = some c) (hs : c = 0 ∨ (¬ btL cl k = 0 ∧ ¬ c < btL cl k)) : btL cl (k + 1) = btL cl k := by
 rw [btL_more h]; unfold btS; rw [if_neg]
 rintro ⟨h1, h2⟩
 rcases hs with h3 | ⟨h3, h4⟩
 · omega
 · rcases h2 with h2 | h2
   · exact h3 h2
   · exact h4 h2
def btV (q : Md) : Int := if mdOK q = true then btL q.cl q.cl.length else 0
def lsO (q : Md) : List Int := if mdOK q = true then lostL q.im q.im.length else []
theorem lost_none {im : List Int} {n j : Nat} {d : Int} (h : lostL im n = []) (hj : j < n) (hd : im[j]? = some d) : d ≠ -1 := by
 intro e
 subst e
 have hm : (j : Int) ∈ lostL im n := by
  unfold lostL
  refine List.mem_map.2 ⟨j, List.mem_filter.2 ⟨List.mem_range.2 hj, ?_⟩, rfl⟩
  rw [getD_of hd]; rfl
 rw [h] at hm
 cases hm
theorem lost_some {im : List Int} {n : Nat} (h : lostL im n ≠ []) : ∃ j, j < n ∧ im.getD j 0 = -1 := by
 obtain ⟨x, hx⟩ := List.exists_mem_of_ne_nil _ h
 unfold lostL at hx
 obtain ⟨j, hj, _⟩ := List.mem_map.1 hx
 obtain ⟨h1, h2⟩ := List.mem_filter.1 hj
 exact ⟨j, List.mem_range.1 h1, by simpa using h2⟩
/-- a number is remembered where nothing is lost -/
theorem nimO_lost {q : Md} (h : mdOK q = true) : (0 < (lostL q.im q.im.length).length ∧ nimO q = none ∧ 0 < (lostL q.im q.im.length).length) ∨ (lostL q.im q.im.length = [] ∧ nimO q = some (nimL q.im q.im.length)) := by
 obtain ⟨_, h1, h2, _, _, hrow⟩ := mdOK_parts h
 by_cases hl : lostL q.im q.im.length = []
 · refine .inr ⟨hl, ?_⟩
   unfold nimO
   rw [if_pos]
   refine ⟨h, fun d hd => ?_⟩
   obtain ⟨j, hj⟩ := List.mem_iff_getElem?.1 hd
   have hjl := (List.getElem?_eq_some_iff.1 hj).1
   have := lost_none hl hjl hj
   have hr := rowM_iff.1 (rowsM_at hrow (k := j) (by omega))
   rw [getD_of hj] at hr
   omega
 · refine .inl ⟨List.length_pos_iff.2 hl, ?_, List.length_pos_iff.2 hl⟩
   unfold nimO
   rw [if_neg]
   rintro ⟨_, hall⟩
   obtain ⟨j, hj, hd⟩ := lost_some hl
   obtain ⟨d, hd2⟩ := list_split (l := q.im) (k := j) hj
   rw [getD_of hd2] at hd
   have := hall d (List.mem_of_getElem? hd2)
   omega
def mtS (s : ByteArray) (d : Int) : ByteArray := if d < 0 then s ++ ⟨#[63]⟩ else s ++ decI d
def mtL (im : List Int) (k : Nat) : ByteArray := (im.take k).foldl mtS ⟨#[]⟩
theorem mtL_more {im : List Int} {k : Nat} {d : Int} (h : im[k]? = some d) : mtL im (k + 1) = mtS (mtL im k) d := by
 unfold mtL
 rw [List.take_add_one, h, List.foldl_append]
 rfl
theorem mtL_lost {im : List Int} {k : Nat} {d : Int} (h : im[k]? = some d) (hd : d < 0) : mtL im (k + 1) = mtL im k ++ ⟨#[63]⟩ := by
 rw [mtL_more h]; unfold mtS; rw [if_pos hd]
theorem mtL_held {im : List Int} {k : Nat} {d : Int} (h : im[k]? = some d) (hd : ¬ d < 0) : mtL im (k + 1) = mtL im k ++ decI d := by
 rw [mtL_more h]; unfold mtS; rw [if_neg hd]
theorem mtL_size (im : List Int) (k : Nat) : (mtL im k).size ≤ 21 * k := by
 induction k with
 | zero => exact Nat.le_refl _
 | succ k ih =>
   rcases h : im[k]? with _ | d
   · unfold mtL at *
     rw [List.take_add_one, h]
     simp only [Option.toList, List.append_nil]
     omega
   · rw [mtL_more h]
     unfold mtS
     have := decI_size d
     split
     · rw [ByteArray.size_append]
       show _ + 1 ≤ _
       omega
     · rw [ByteArray.size_append]; omega
def mtV (q : Md) : ByteArray := if mdOK q = true then mtL q.im q.im.length ++ ⟨#[32]⟩ ++ decI (numR q.l) else ⟨#[]⟩
end Go.Proofs.Ytlkfffohjeoooaa
namespace Go.Proofs.Ytlkfffohjeoooaa
open Go.RowKit
set_option linter.unusedVariables false
set_option linter.unusedSimpArgs false
theorem wrongL_self (ds : List Int) (k : Nat) : wrongL ds ds k = [] := by
 induction k with
 | zero => rfl
 | succ k ih => rw [wrongL_no (by intro h; exact h.2 rfl), ih]
theorem wrO_fresh {u lo : Int} {l : List R2} {cl : List Int} {be gu : Int} : wrO ⟨u, lo, l, cl, dsOf l, be, gu⟩ = [] := by
 unfold wrO
 split
 · exact wrongL_self _ _
 · rfl
theorem nimL_numR {l : List R2} : ∀ k, k ≤ l.length → nimL (dsOf l) k = numR (l.take k) := by
 intro k
 induction k with
 | zero => intro _; rfl
 | succ k ih =>
   intro hk
   obtain ⟨r, hr⟩ := list_split (l := l) (k := k) (by omega)
   have hd : (dsOf l)[k]? = some (dv r) := by unfold dsOf; rw [List.getElem?_map, hr]; rfl
   rw [nimL_more hd, ih (by omega), numR_take hr]
   rfl
/-- what a fresh mind says: the frame's number -/
theorem nimO_fresh {u lo : Int} {l : List R2} (h : goodB u lo l = true) : nimO ⟨u, lo, l, List.replicate l.length 5, dsOf l, 0, 0⟩ = some (numR l) := by
 have hw := dsOf_WF (good_fr h) (good_std h)
 have hok : mdOK ⟨u, lo, l, List.replicate l.length 5, dsOf l, 0, 0⟩ = true := by
  have hr : rowsM (dsOf l) (List.replicate l.length 5) l.length = true := rowsM_of fun k hk => by
   obtain ⟨d, hd⟩ := list_split (l := dsOf l) (k := k) (by rw [dsOf_len]; exact hk)
   rw [getD_of hd, getD_of (l := List.replicate l.length 5) (a := 5) (by simp [hk])]
   have := hw d (List.mem_of_getElem? hd)
   exact rowM_iff.2 ⟨by omega, by omega, by omega⟩
  show (goodB u lo l && decide ((dsOf l).length = l.length) && decide ((List.replicate l.length (5 : Int)).length = l.length) && inB 0 0 9999 && inB 0 0 9999 && rowsM (dsOf l) (List.replicate l.length 5) l.length) = true
  rw [h, dsOf_len, List.length_replicate, hr]
  simp [inB]
 unfold nimO
 rw [if_pos ⟨hok, fun d hd => by have := hw d hd; omega⟩]
 show some (nimL (dsOf l) (dsOf l).length) = _
 rw [dsOf_len, nimL_numR _ (Nat.le_refl _), List.take_length]
theorem gd_eq {q q' : Md} (h : gdM q = some q') : q' = q := by
 unfold gdM at h
 split at h
 · injection h with h; exact h.symm
 · cases h
/-- waiting and adding remember nothing as more than it was -/
theorem mind_less {q q2 : Md} {k v : Int} (h : stepO q k v = some q2) (hk : k = 1 ∨ k = 4) {i : Nat} {c d c2 d2 : Int} (hc : q.cl[i]? = some c) (hd : q.im[i]? = some d) (hc2 : q2.cl[i]? = some c2) (hd2 : q2.im[i]? = some d2) : c2 ≤ c ∧ (d2 = d ∨ d2 = -1) := by
 unfold stepO at h
 split at h
 · rename_i hok
   obtain ⟨_, h1, h2, _, _, hrow⟩ := mdOK_parts hok
   have hi : i < q.l.length := by rw [← h2]; exact (List.getElem?_eq_some_iff.1 hc).1
   have hrm := rowM_iff.1 (rowsM_at hrow hi)
   rw [getD_of hc, getD_of hd] at hrm
   rcases hk with rfl | rfl
   · unfold stM at h
     rw [if_pos rfl] at h
     unfold st1 at h
     split at h
     · rename_i hv
       obtain ⟨v1, v9⟩ := inB_iff.1 hv
       have e := gd_eq h
       subst e
       have e1 := fC_getD v (-1) q.cl q.im hi
       have e2 := fI_getD v (-1) q.cl q.im hi
       rw [getD_of hc2, getD_of hc, getD_of hd] at e1
       rw [getD_of hd2, getD_of hc, getD_of hd] at e2
       unfold fdC at e1
       unfold fdI at e2
       split at e1
       · rename_i hx
         rw [if_pos hx] at e2
         exact ⟨by omega, .inl e2⟩
       · rename_i hx
         rw [if_neg hx] at e2
         refine ⟨by omega, ?_⟩
         split at e2
         · exact .inr e2
         · exact .inl e2
     · cases h
   · unfold stM at h
     rw [if_neg (by decide), if_neg (by decide), if_neg (by decide), if_pos rfl] at h
     unfold st4 at h
     split at h
     · have e := gd_eq h
       subst e
       have hc2 : q.cl[i]? = some c2 := hc2
       have hd2 : q.im[i]? = some d2 := hd2
       rw [hc] at hc2
       rw [hd] at hd2
       injection hc2 with hc2
       injection hd2 with hd2
       exact ⟨by omega, .inl hd2.symm⟩
     · cases h
 · cases h
end Go.Proofs.Ytlkfffohjeoooaa
namespace Go.Proofs.Ytlkfffohjeoooaa
open Go.RowKit
set_option linter.unusedVariables false
set_option linter.unusedSimpArgs false
theorem filter_lt {p r : Nat → Bool} : ∀ L : List Nat, (∀ i ∈ L, p i = true → r i = true) → (∃ i ∈ L, r i = true ∧ p i = false) → (L.filter p).length < (L.filter r).length := by
 have hle : ∀ L : List Nat, (∀ i ∈ L, p i = true → r i = true) → (L.filter p).length ≤ (L.filter r).length := by
  intro L
  induction L with
  | nil => intro _; exact Nat.le_refl _
  | cons a L ih =>
    intro h
    have ih := ih fun i hi => h i (List.mem_cons_of_mem _ hi)
    have ha := h a (List.mem_cons_self ..)
    simp only [List.filter_cons]
    cases hp : p a
    · cases hr : r a <;> simp <;> omega
    · rw [ha hp]; simp; omega
 intro L
 induction L with
 | nil => rintro _ ⟨i, hi, _⟩; cases hi
 | cons a L ih =>
   intro h hx
   have hl := hle L fun i hi => h i (List.mem_cons_of_mem _ hi)
   obtain ⟨i, hi, h1, h2⟩ := hx
   simp only [List.filter_cons]
   rcases List.mem_cons.1 hi with rfl | hi
   · rw [h1, h2]; simp; omega
   · have ih := ih (fun i hi => h i (List.mem_cons_of_mem _ hi)) ⟨i, hi, h1, h2⟩
     have ha := h a (List.mem_cons_self ..)
     cases hp : p a
     · cases hr : r a <;> simp <;> omega
     · rw [ha hp]; simp; omega
theorem btL_at {cl : List Int} : ∀ k, k ≤ cl.length → (∀ c ∈ cl, 0 ≤ c) → 0 ≤ btL cl k ∧ (0 < btL cl k → ∃ i, i < k ∧ cl[i]? = some (btL cl k)) := by
 intro k
 induction k with
 | zero => intro _ _; exact ⟨Int.le_refl _, fun h => absurd h (by simp [btL])⟩
 | succ k ih =>
   intro hk h0
   obtain ⟨hb, ih⟩ := ih (by omega) h0
   obtain ⟨c, hc⟩ := list_split (l := cl) (k := k) (by omega)
   rw [btL_more hc]
   unfold btS
   split
   · rename_i h
     exact ⟨by omega, fun _ => ⟨k, by omega, hc⟩⟩
   · exact ⟨hb, fun h => by obtain ⟨i, hi, he⟩ := ih h; exact ⟨i, by omega, he⟩⟩
theorem st1_of {q Y : Md} {v : Int} (h : stepO q 1 v = some Y) : mdOK q = true ∧ mdOK Y = true ∧ Y.im = fI v (-1) q.cl q.im q.l.length := by
 have h2 := stepO_ok h
 unfold stepO at h
 split at h
 · rename_i hok
   unfold stM at h
   rw [if_pos rfl] at h
   unfold st1 at h
   split at h
   · have e := gd_eq h
     subst e
     exact ⟨hok, h2, rfl⟩
   · cases h
 · cases h
/-- after the told beats something is lost -/
theorem igStep {q Y : Md} (hb : 0 < btV q) (h : stepO q 1 (btV q) = some Y) : mdOK Y = true ∧ (lsO q).length < (lsO Y).length ∧ ∀ x ∈ lsO q, x ∈ lsO Y := by
 obtain ⟨hok, hY, him⟩ := st1_of h
 obtain ⟨_, h1, h2, _, _, hrow⟩ := mdOK_parts hok
 have hl1 : lsO q = lostL q.im q.l.length := by unfold lsO; rw [if_pos hok, h1]
 have hlY : Y.im.length = q.l.length := by rw [him]; exact fIto_len _ _ _ _ _ _
 have hl2 : lsO Y = lostL Y.im q.l.length := by unfold lsO; rw [if_pos hY, hlY]
 have hbv : btV q = btL q.cl q.cl.length := by unfold btV; rw [if_pos hok]
 have hget : ∀ i, i < q.l.length → Y.im.getD i 0 = fdI (btV q) (-1) i (q.cl.getD i 0) (q.im.getD i 0) := fun i hi => by rw [him, fI_getD _ _ _ _ hi]
 have hkeep : ∀ i, i < q.l.length → (q.im.getD i 0 == -1) = true → (Y.im.getD i 0 == -1) = true := by
  intro i hi he
  rw [hget i hi]
  unfold fdI
  have : q.im.getD i 0 = -1 := by simpa [-List.getD_eq_getElem?_getD] using he
  rw [this, if_pos (.inr (by decide))]
  rfl
 obtain ⟨_, hat⟩ := btL_at (cl := q.cl) q.cl.length (Nat.le_refl _) (by
  intro c hc
  obtain ⟨j, hj⟩ := List.mem_iff_getElem?.1 hc
  have hjl := (List.getElem?_eq_some_iff.1 hj).1
  have hr := rowM_iff.1 (rowsM_at hrow (k := j) (by omega))
  rw [getD_of hj] at hr
  omega)
 obtain ⟨i, hi, hci⟩ := hat (by rw [← hbv]; exact hb)
 have hr := rowM_iff.1 (rowsM_at hrow (k := i) (by omega))
 rw [getD_of hci] at hr
 rw [← hbv] at hci hr
 have hnew : (Y.im.getD i 0 == -1) = true := by
  rw [hget i (by omega), getD_of hci]
  unfold fdI
  have hn : ¬ ((i : Int) = -1 ∨ q.im.getD i 0 < 0) := by omega
  rw [if_neg hn, if_pos (by omega)]
  rfl
 have hold : (q.im.getD i 0 == -1) = false := by
  have : q.im.getD i 0 ≠ -1 := by omega
  simpa [-List.getD_eq_getElem?_getD] using this
 refine ⟨hY, ?_, ?_⟩
 · rw [hl1, hl2]
   unfold lostL
   rw [List.length_map, List.length_map]
   exact filter_lt _ (fun i hi => hkeep i (List.mem_range.1 hi)) ⟨i, List.mem_range.2 (by omega), hnew, hold⟩
 · intro x hx
   rw [hl1] at hx
   rw [hl2]
   unfold lostL at *
   obtain ⟨j, hj, rfl⟩ := List.mem_map.1 hx
   obtain ⟨h3, h4⟩ := List.mem_filter.1 hj
   exact List.mem_map.2 ⟨j, List.mem_filter.2 ⟨h3, hkeep j (List.mem_range.1 h3) h4⟩, rfl⟩
/-- rods that are lost are never wrong -/
theorem igWrong (q : Md) : ∀ x ∈ wrO q, x ∉ lsO q := by
 intro x hx hl
 unfold wrO at hx
 unfold lsO at hl
 split at hx
 · rename_i h
   rw [if_pos h] at hl
   unfold wrongL at hx
   unfold lostL at hl
   obtain ⟨i, hi, e⟩ := List.mem_map.1 hx
   obtain ⟨j, hj, e2⟩ := List.mem_map.1 hl
   have : i = j := by omega
   subst this
   have h1 := (List.mem_filter.1 hi).2
   have h2 := (List.mem_filter.1 hj).2
   simp only [Bool.and_eq_true, decide_eq_true_eq] at h1
   have h3 : q.im.getD i 0 = -1 := by simpa [-List.getD_eq_getElem?_getD] using h2
   omega
 · cases hx
theorem igKnown (q : Md) : (nimO q).isSome = (mdOK q && decide ((lsO q).length = 0)) := by
 cases h : mdOK q
 · unfold nimO
   rw [if_neg (by rw [h]; simp)]
   rfl
 · have hl : lsO q = lostL q.im q.im.length := by unfold lsO; rw [if_pos h]
   rw [hl]
   rcases nimO_lost h with ⟨h1, h2, _⟩ | ⟨h1, h2⟩
   · rw [h2]
     have : decide ((lostL q.im q.im.length).length = 0) = false := by simp; intro e; rw [e] at h1; simp at h1
     rw [this]; rfl
   · rw [h2, h1]; rfl
theorem nimL_inj {a b : List Int} : ∀ k, (∀ i x, i < k → a[i]? = some x → 0 ≤ x ∧ x ≤ 9) → (∀ i x, i < k → b[i]? = some x → 0 ≤ x ∧ x ≤ 9) → k ≤ a.length → k ≤ b.length → nimL a k = nimL b k → ∀ i, i < k → a.getD i 0 = b.getD i 0 := by
 intro k
 induction k with
 | zero => intro _ _ _ _ _ i hi; omega
 | succ k ih =>
   intro ha hb hka hkb he
   obtain ⟨x, hx⟩ := list_split (l := a) (k := k) (by omega)
   obtain ⟨y, hy⟩ := list_split (l := b) (k := k) (by omega)
   rw [nimL_more hx, nimL_more hy] at he
   have hxb := ha k x (by omega) hx
   have hyb := hb k y (by omega) hy
   have ih := ih (fun i x hi => ha i x (by omega)) (fun i x hi => hb i x (by omega)) (by omega) (by omega) (by omega)
   intro i hi
   rcases (show i < k ∨ i = k by omega) with h | h
   · exact ih i h
   · subst h
     rw [getD_of hx, getD_of hy]
     omega
/-- the number that is remembered is the frame's where nothing is wrong -/
theorem igShown {q : Md} {N : Int} (h : nimO q = some N) : frB q.u q.lo q.l = true ∧ ((N == numR q.l) = decide ((wrO q).length = 0)) := by
 unfold nimO at h
 split at h
 · rename_i hh
   obtain ⟨hok, hpos⟩ := hh
   injection h with h
   subst h
   obtain ⟨hg, h1, h2, _, _, hrow⟩ := mdOK_parts hok
   refine ⟨good_fr hg, ?_⟩
   have hw : wrO q = wrongL q.im (dsOf q.l) q.im.length := by unfold wrO; rw [if_pos hok]
   have hds := dsOf_WF (good_fr hg) (good_std hg)
   have hn : nimL (dsOf q.l) q.im.length = numR q.l := by rw [h1, nimL_numR _ (Nat.le_refl _), List.take_length]
   have hA : ∀ i x, i < q.im.length → q.im[i]? = some x → 0 ≤ x ∧ x ≤ 9 := by
    intro i x hi hx
    have := hpos x (List.mem_of_getElem? hx)
    have hr := rowM_iff.1 (rowsM_at hrow (k := i) (by omega))
    rw [getD_of hx] at hr
    omega
   have hB : ∀ i x, i < q.im.length → (dsOf q.l)[i]? = some x → 0 ≤ x ∧ x ≤ 9 := by
    intro i x hi hx
    have := hds x (List.mem_of_getElem? hx)
    omega
   have hld : (dsOf q.l).length = q.l.length := dsOf_len _
   rw [hw, ← hn]
   by_cases he : nimL q.im q.im.length = nimL (dsOf q.l) q.im.length
   · rw [he]
     have hall := nimL_inj q.im.length hA hB (Nat.le_refl _) (by omega) he
     have : wrongL q.im (dsOf q.l) q.im.length = [] := by
      unfold wrongL
      rw [List.map_eq_nil_iff, List.filter_eq_nil_iff]
      intro i hi
      have := hall i (List.mem_range.1 hi)
      simp only [Bool.and_eq_true, decide_eq_true_eq, not_and]
      intro _ h3
      exact h3 this
     rw [this]
     simp
   · have hne : (nimL q.im q.im.length == nimL (dsOf q.l) q.im.length) = false := by simpa using he
     rw [hne]
     symm
     rw [decide_eq_false_iff_not]
     intro h0
     apply he
     have h0 := List.eq_nil_of_length_eq_zero h0
     have hall : ∀ i, i < q.im.length → q.im.getD i 0 = (dsOf q.l).getD i 0 := by
      intro i hi
      unfold wrongL at h0
      rw [List.map_eq_nil_iff, List.filter_eq_nil_iff] at h0
      have h4 := h0 i (List.mem_range.2 hi)
      simp only [Bool.and_eq_true, decide_eq_true_eq, not_and, Classical.not_not] at h4
      obtain ⟨x, hx⟩ := list_split (l := q.im) (k := i) hi
      rw [getD_of hx] at h4 ⊢
      exact h4 (hA i x hi hx).1
     have heq : q.im = dsOf q.l := by
      refine List.ext_getElem? fun i => ?_
      by_cases hi : i < q.im.length
      · obtain ⟨x, hx⟩ := list_split (l := q.im) (k := i) hi
        obtain ⟨y, hy⟩ := list_split (l := dsOf q.l) (k := i) (by omega)
        have := hall i hi
        rw [getD_of hx, getD_of hy] at this
        rw [hx, hy, this]
      · rw [List.getElem?_eq_none (by omega), List.getElem?_eq_none (by omega)]
     rw [heq]
 · cases h
end Go.Proofs.Ytlkfffohjeoooaa
