/- A fresh mind, plainly: its number is the frame's, and nothing is wrong. -/
import Derived.Test.YtlkfffohjeoooaaVWrA
import Derived.Test.YtlkfffohjeoooaaVMdV
import Derived.Test.YtlkfffohjeoooaaVRmI
import Derived.Test.YtlkfffohjeoooaaVFdN
namespace Go.Proofs.Ytlkfffohjeoooaa
open Go.RowKit
set_option linter.unusedVariables false
set_option linter.unusedSimpArgs false
theorem wrongL_self (ds : List Int) (k : Nat) : wrongL ds ds k = [] := by
 induction k with
 | zero => rfl
 | succ k ih => rw [wrongL_no (by intro h; exact h.2 rfl), ih]
theorem wrO_fresh {u lo : Int} {l : List R2} {cl : List Int} {be gu : Int} : wrO ⟨u, lo, l, cl, dsOf l, be, gu⟩ = [] := by
 unfold wrO
 split
 · exact wrongL_self _ _
 · rfl
theorem nimL_numR {l : List R2} : ∀ k, k ≤ l.length → nimL (dsOf l) k = numR (l.take k) := by
 intro k
 induction k with
 | zero => intro _; rfl
 | succ k ih =>
   intro hk
   obtain ⟨r, hr⟩ := list_split (l := l) (k := k) (by omega)
   have hd : (dsOf l)[k]? = some (dv r) := by unfold dsOf; rw [List.getElem?_map, hr]; rfl
   rw [nimL_more hd, ih (by omega), numR_take hr]
   rfl
/-- what a fresh mind says: the frame's number -/
theorem nimO_fresh {u lo : Int} {l : List R2} (h : goodB u lo l = true) : nimO ⟨u, lo, l, List.replicate l.length 5, dsOf l, 0, 0⟩ = some (numR l) := by
 have hw := dsOf_WF (good_fr h) (good_std h)
 have hok : mdOK ⟨u, lo, l, List.replicate l.length 5, dsOf l, 0, 0⟩ = true := by
  have hr : rowsM (dsOf l) (List.replicate l.length 5) l.length = true := rowsM_of fun k hk => by
   obtain ⟨d, hd⟩ := list_split (l := dsOf l) (k := k) (by rw [dsOf_len]; exact hk)
   rw [getD_of hd, getD_of (l := List.replicate l.length 5) (a := 5) (by simp [hk])]
   have := hw d (List.mem_of_getElem? hd)
   exact rowM_iff.2 ⟨by omega, by omega, by omega⟩
  show (goodB u lo l && decide ((dsOf l).length = l.length) && decide ((List.replicate l.length (5 : Int)).length = l.length) && inB 0 0 9999 && inB 0 0 9999 && rowsM (dsOf l) (List.replicate l.length 5) l.length) = true
  rw [h, dsOf_len, List.length_replicate, hr]
  simp [inB]
 unfold nimO
 rw [if_pos ⟨hok, fun d hd => by have := hw d hd; omega⟩]
 show some (nimL (dsOf l) (dsOf l).length) = _
 rw [dsOf_len, nimL_numR _ (Nat.le_refl _), List.take_length]
theorem gd_eq {q q' : Md} (h : gdM q = some q') : q' = q := by
 unfold gdM at h
 split at h
 · injection h with h; exact h.symm
 · cases h
/-- waiting and adding remember nothing as more than it was -/
theorem mind_less {q q2 : Md} {k v : Int} (h : stepO q k v = some q2) (hk : k = 1 ∨ k = 4) {i : Nat} {c d c2 d2 : Int} (hc : q.cl[i]? = some c) (hd : q.im[i]? = some d) (hc2 : q2.cl[i]? = some c2) (hd2 : q2.im[i]? = some d2) : c2 ≤ c ∧ (d2 = d ∨ d2 = -1) := by
 unfold stepO at h
 split at h
 · rename_i hok
   obtain ⟨_, h1, h2, _, _, hrow⟩ := mdOK_parts hok
   have hi : i < q.l.length := by rw [← h2]; exact (List.getElem?_eq_some_iff.1 hc).1
   have hrm := rowM_iff.1 (rowsM_at hrow hi)
   rw [getD_of hc, getD_of hd] at hrm
   rcases hk with rfl | rfl
   · unfold stM at h
     rw [if_pos rfl] at h
     unfold st1 at h
     split at h
     · rename_i hv
       obtain ⟨v1, v9⟩ := inB_iff.1 hv
       have e := gd_eq h
       subst e
       have e1 := fC_getD v (-1) q.cl q.im hi
       have e2 := fI_getD v (-1) q.cl q.im hi
       rw [getD_of hc2, getD_of hc, getD_of hd] at e1
       rw [getD_of hd2, getD_of hc, getD_of hd] at e2
       unfold fdC at e1
       unfold fdI at e2
       split at e1
       · rename_i hx
         rw [if_pos hx] at e2
         exact ⟨by omega, .inl e2⟩
       · rename_i hx
         rw [if_neg hx] at e2
         refine ⟨by omega, ?_⟩
         split at e2
         · exact .inr e2
         · exact .inl e2
     · cases h
   · unfold stM at h
     rw [if_neg (by decide), if_neg (by decide), if_neg (by decide), if_pos rfl] at h
     unfold st4 at h
     split at h
     · have e := gd_eq h
       subst e
       have hc2 : q.cl[i]? = some c2 := hc2
       have hd2 : q.im[i]? = some d2 := hd2
       rw [hc] at hc2
       rw [hd] at hd2
       injection hc2 with hc2
       injection hd2 with hd2
       exact ⟨by omega, .inl hd2.symm⟩
     · cases h
 · cases h
end Go.Proofs.Ytlkfffohjeoooaa
namespace Go.Proofs.Ytlkfffohjeoooaa
open Go.RowKit
set_option linter.unusedVariables false
set_option linter.unusedSimpArgs false
set_option maxRecDepth 100000 in
theorem specIsMind_any (u lo : Int) (A : Option Addr) (n c : Nat) (l : List R2) (K : Option Addr) (k kc : Nat) (cl : List Int) (I : Option Addr) (m ic : Nat) (im : List Int) (be gu : Int) (w : World) (hn : n ≤ 1048576) (hk : k ≤ 1048576) (hm : m ≤ 1048576) (h : Reads w w.heap.size 2 A n (rowsV2 l)) (hc : Reads w w.heap.size 1 K k (intsV cl)) (hi : Reads w w.heap.size 1 I m (intsV im)) :
 Calls Try.prog 66 #[mdV u lo A n c K k kc I m ic be gu] w (RetV (.bool (mindB u lo l cl im be gu)) w) := by
 have H := Lib.hid h
 have HC := Lib.hid hc
 have HI := Lib.hid hi
 have hbx := Lib.hid (ext_alloc (ext_refl w) (.cells (mdC u lo A n c K k kc I m ic be gu) 47))
 clear h hc hi
 obtain ⟨b, hb⟩ : ∃ b, mindB u lo l cl im be gu = b := ⟨_, rfl⟩
 have HG := Lib.hid (fun (w : World) a b d => l21Good_any u lo A n c l K k kc cl I m ic im be gu w hn hk hm a b d)
 rw [hb] at HG ⊢
 clear hb
 go_enter Try.func66, Try.ntmps66
 go_wp2_with fail
 refine (HG.out _ (rdx H.out hbx.out) (rdx HC.out hbx.out) (rdx HI.out hbx.out)).mono ?_
 rintro e w1 ⟨rfl, hb⟩
 go_wp2
 go_ret
 exact ⟨rfl, ext_trans hbx.out hb⟩
/-- what the law says of a step -/
theorem fmStep (q : Md) (kd v : Int) : (stepO q kd v).isSome = true → mindB (resQ (stepO q kd v)).u (resQ (stepO q kd v)).lo (resQ (stepO q kd v)).l (resQ (stepO q kd v)).cl (resQ (stepO q kd v)).im (resQ (stepO q kd v)).be (resQ (stepO q kd v)).gu = true ∧ q.im.length = q.cl.length ∧ (resQ (stepO q kd v)).im.length = (resQ (stepO q kd v)).cl.length ∧ (kd = 1 ∨ kd = 4 → ∀ (i : Nat) (c d c2 d2 : Int), q.cl[i]? = some c → q.im[i]? = some d → (resQ (stepO q kd v)).cl[i]? = some c2 → (resQ (stepO q kd v)).im[i]? = some d2 → c2 ≤ c ∧ (d2 = d ∨ d2 = -1)) := by
 cases h : stepO q kd v with
 | none => intro h; cases h
 | some q2 =>
   intro _
   show mdOK q2 = true ∧ q.im.length = q.cl.length ∧ q2.im.length = q2.cl.length ∧ (kd = 1 ∨ kd = 4 → ∀ (i : Nat) (c d c2 d2 : Int), q.cl[i]? = some c → q.im[i]? = some d → q2.cl[i]? = some c2 → q2.im[i]? = some d2 → c2 ≤ c ∧ (d2 = d ∨ d2 = -1))
   have h2 := stepO_ok h
   obtain ⟨_, a1, a2, _⟩ := mdOK_parts h2
   have h1 : mdOK q = true := by
    unfold stepO at h
    split at h
    · assumption
    · cases h
   obtain ⟨_, b1, b2, _⟩ := mdOK_parts h1
   exact ⟨h2, by omega, by omega, fun hk i c d c2 d2 e1 e2 e3 e4 => mind_less h hk e1 e2 e3 e4⟩
def resUf (o : Option (Md × Nat)) : Md × Nat := o.getD (⟨0, 0, [], [], [], 0, 0⟩, 0)
theorem resUf_len {q : Md} {ss : List R2} : (resUf (runO q ss)).1.l.length ≤ 1048576 ∧ (resUf (runO q ss)).1.cl.length ≤ 1048576 ∧ (resUf (runO q ss)).1.im.length ≤ 1048576 := by
 unfold runO
 split
 · rename_i h
   exact ok_len (runMi_ok h.1 ss ss.length)
 · exact ⟨Nat.zero_le _, Nat.zero_le _, Nat.zero_le _⟩
/-- a mind, a count and a bool come back, in one form -/
def RetUF (w : World) (x : Md × Nat) (ok : Bool) (e : Ending) (w' : World) : Prop :=
 ∃ A c K kc I ic, e = .returned (.tuple #[mdV x.1.u x.1.lo A x.1.l.length c K x.1.cl.length kc I x.1.im.length ic x.1.be x.1.gu, .int .i64 x.2, .bool ok]) ∧
  w'.ownsRow w.heap.size 155 2 (.slice A x.1.l.length c) x.1.l.length (rowsV2 x.1.l) ∧ w'.ownsRow w.heap.size 3 1 (.slice K x.1.cl.length kc) x.1.cl.length (intsV x.1.cl) ∧ w'.ownsRow w.heap.size 3 1 (.slice I x.1.im.length ic) x.1.im.length (intsV x.1.im) ∧ Below w.heap.size w w'
theorem retUF (o : Option (Md × Nat)) (w : World) (e : Ending) (w' : World) (h : RetRu w o e w') : RetUF w (resUf o) o.isSome e w' := by
 cases o with
 | none =>
   obtain ⟨rfl, hb⟩ := h
   exact ⟨none, 0, none, 0, none, 0, rfl, World.ownsRow_nil _ _ _ _, World.ownsRow_nil _ _ _ _, World.ownsRow_nil _ _ _ _, hb⟩
 | some x =>
   obtain ⟨q, cnt⟩ := x
   show RetUF w (q, cnt) true e w'
   obtain ⟨h, c, g, kc, i, ic, rfl, hr, hc, hi, hne, hb⟩ := h
   have e1 := ints_len (Reads.of_own hc)
   have e2 := ints_len (Reads.of_own hi)
   unfold RetUF
   dsimp only
   rw [e1, e2]
   exact ⟨_, c, _, kc, _, ic, rfl, hr, hc, hi, hb⟩
/-- what the law says of a run -/
theorem fmRun (q : Md) (ss : List R2) : (runO q ss).isSome = true → mdOK q = true ∧ runMi q ss ss.length = resUf (runO q ss) := by
 unfold runO
 split
 · rename_i h
   intro _
   exact ⟨h.1, rfl⟩
 · intro h; cases h
theorem stepO_on {q : Md} {k v : Int} (h : mdOK q = true) : stepO q k v = stM q k v := by unfold stepO; rw [if_pos h]
theorem newO_len {u lo : Int} {l : List R2} : (resQ (newO u lo l)).l.length ≤ l.length ∧ (resQ (newO u lo l)).cl.length ≤ l.length ∧ (resQ (newO u lo l)).im.length ≤ l.length := by
 unfold newO
 split
 · show l.length ≤ l.length ∧ (List.replicate l.length (5 : Int)).length ≤ l.length ∧ (dsOf l).length ≤ l.length
   rw [dsOf_len, List.length_replicate]
   omega
 · exact ⟨Nat.zero_le _, Nat.zero_le _, Nat.zero_le _⟩
/-- what the law says of a fresh mind -/
theorem fmNew (u lo : Int) (l : List R2) : (newO u lo l).isSome = true → frB u lo l = true ∧ nimO (resQ (newO u lo l)) = some (numR l) ∧ wrO (resQ (newO u lo l)) = [] ∧ mdOK (resQ (newO u lo l)) = true := by
 unfold newO
 split
 · rename_i h
   intro _
   exact ⟨good_fr h, nimO_fresh h, wrO_fresh, newM_ok h⟩
 · intro h; cases h
end Go.Proofs.Ytlkfffohjeoooaa
