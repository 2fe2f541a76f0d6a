
/- A region that draws its order, walked by an invariant over what is listed. -/
import Derived.Test.YtlkfffohjeoooaaBase
namespace Go.Proofs.Ytlkfffohjeoooaa
open Go.RowKit
set_option linter.unusedVariables false
set_option linter.unusedSimpArgs false
def unl (listed : Array Bool) : Nat := listed.toList.count false
theorem unl_zero {md : Region.Mode} {ops : Array Oper} {listed : Array Bool} (h : unl listed = 0) : Region.ready md ops listed = [] := by
  rcases hr : Region.ready md ops listed with _ | ⟨i, rs⟩
  · rfl
  · have hi : i ∈ Region.ready md ops listed := by rw [hr]; simp
    obtain ⟨h0, _⟩ := mem_ready.1 hi
    have hm : false ∈ listed.toList := by
      by_cases hlt : i < listed.size
      · have : listed[i] = false := by simpa [hlt] using h0
        rw [← this]
        simp
      · simp [Array.getElem?_eq_none (Nat.le_of_not_lt hlt)] at h0
    have := List.count_pos_iff.2 hm
    unfold unl at h
    omega
theorem unl_set {listed : Array Bool} {i : Nat} (h : listed.getD i true = false) : unl (listed.setIfInBounds i true) + 1 = unl listed := by
  by_cases hlt : i < listed.size
  · have hf : listed[i] = false := by simpa [hlt] using h
    unfold unl
    rw [Array.toList_setIfInBounds, List.count_set (by simpa using hlt)]
    have hp : 0 < List.count false listed.toList := List.count_pos_iff.2 (by rw [← hf]; simp)
    have e1 : (listed.toList[i]'(by simpa using hlt) == false) = true := by simp [hf]
    rw [if_pos e1, if_neg (by decide)]
    omega
  · simp [Array.getElem?_eq_none (Nat.le_of_not_lt hlt)] at h
theorem wpAny_inv {P : Program} {ops : Array Oper} {Q : Exit → Act → World → Prop} {md : Region.Mode} {I : Array Bool → Act → World → Prop}
    (hstep : ∀ listed a w i, I listed a w → i ∈ Region.ready md ops listed → wpOp P ops Q i (I (listed.setIfInBounds i true)) a w)
    (hend : ∀ listed a w, I listed a w → Region.ready md ops listed = [] → Q .normal a w) :
    ∀ (fuel : Nat) (listed : Array Bool) (a : Act) (w : World), I listed a w → unl listed ≤ fuel → wpAny P md ops Q fuel listed a w := by
  intro fuel
  induction fuel with
  | zero =>
    intro listed a w hI h0
    have hr := unl_zero (md := md) (ops := ops) (listed := listed) (by omega)
    exact ⟨hr, hend _ _ _ hI hr⟩
  | succ f ih =>
    intro listed a w hI hf
    refine ⟨fun hr => hend _ _ _ hI hr, fun i hi => ?_⟩
    have hu := unl_set (mem_ready.1 hi).1
    exact wpOp_mono (fun a' w' h => ih _ a' w' h (by omega)) (hstep _ _ _ _ hI hi)
def lst (listed : Array Bool) (j : Nat) : Prop := listed.getD j false = true
theorem lst_rep {n j : Nat} : ¬ lst (Array.replicate n false) j := by
  unfold lst
  simp only [Array.getD_eq_getD_getElem?, Array.getElem?_replicate]
  split <;> simp
theorem lst_set {listed : Array Bool} {i j : Nat} : lst (listed.setIfInBounds i true) j ↔ (j = i ∧ i < listed.size) ∨ lst listed j := by
  unfold lst
  by_cases e : i = j
  · subst e
    by_cases hlt : i < listed.size
    · simp [hlt]
    · simp [hlt]
  · rw [getD_set_ne false e]
    simp [Ne.symm e]
theorem lst_no {listed : Array Bool} {i : Nat} (h : listed.getD i true = false) : ¬ lst listed i ∧ i < listed.size := by
  by_cases hlt : i < listed.size
  · refine ⟨?_, hlt⟩
    unfold lst
    simp [hlt] at h ⊢
    exact h
  · simp [Array.getElem?_eq_none (Nat.le_of_not_lt hlt)] at h
def later (ops : Array Oper) : Bool := (List.range ops.size).all fun j => match ops[j]? with | none => true | some o => o.after.all fun e => decide (e.on < j)
theorem all_listed {md : Region.Mode} {ops : Array Oper} {listed : Array Bool} (hl : later ops = true) (hsz : listed.size = ops.size) (hr : Region.ready md ops listed = []) : ∀ j, j < ops.size → lst listed j := by
  intro j
  induction j using Nat.strongRecOn with
  | _ j ih =>
    intro hj
    rcases hb : listed.getD j true with _ | _
    · exfalso
      have hm : j ∈ Region.ready md ops listed := by
        refine mem_ready.2 ⟨hb, ops[j], by simp [hj], fun e he _ => ?_⟩
        have h1 := List.all_eq_true.1 hl j (by simpa using hj)
        simp only [Array.getElem?_eq_getElem hj, Array.all_eq_true_iff_forall_mem, decide_eq_true_eq] at h1
        have h2 := h1 e he
        exact ih e.on h2 (by omega)
      rw [hr] at hm
      cases hm
    · unfold lst
      have : j < listed.size := by omega
      simp [this] at hb ⊢
      exact hb
/-- the frame a, the n slots from d on being vs -/
def slots (a : Act) (d : Nat) (vs : Nat → Value) : Nat → Act
  | 0 => a
  | n + 1 => (slots a d vs n).put (some (d + n)) (vs n)
def upd (vs : Nat → Value) (i : Nat) (v : Value) : Nat → Value := fun k => if k = i then v else vs k
theorem upd_same (vs : Nat → Value) (i : Nat) (v : Value) : upd vs i v i = v := by simp [upd]
theorem upd_ne (vs : Nat → Value) {i k : Nat} (v : Value) (h : k ≠ i) : upd vs i v k = vs k := by simp [upd, h]
def closed (ops : Array Oper) (listed : Array Bool) : Prop := ∀ j o, ops[j]? = some o → lst listed j → ∀ e ∈ o.after, Region.binds .any e = true → lst listed e.on
theorem slots_size (a : Act) (d : Nat) (vs : Nat → Value) : ∀ n, (slots a d vs n).tmps.size = a.tmps.size := by
  intro n
  induction n with
  | zero => rfl
  | succ n ih => simp only [slots, Act.put, Array.size_setIfInBounds]; exact ih
theorem slots_congr (a : Act) (d : Nat) {vs us : Nat → Value} : ∀ n, (∀ k, k < n → vs k = us k) → slots a d vs n = slots a d us n := by
  intro n
  induction n with
  | zero => intro _; rfl
  | succ n ih => intro h; simp only [slots]; rw [ih (fun k hk => h k (by omega)), h n (by omega)]
theorem slots_put (a : Act) (d : Nat) (vs : Nat → Value) {i : Nat} (v : Value) : ∀ n, i < n → (slots a d vs n).put (some (d + i)) v = slots a d (upd vs i v) n := by
  intro n
  induction n with
  | zero => intro h; omega
  | succ n ih =>
    intro h
    simp only [slots]
    by_cases e : i = n
    · subst e
      rw [upd_same, slots_congr a d (vs := upd vs i v) (us := vs) i (fun k hk => upd_ne _ _ (by omega))]
      simp [Act.put]
    · rw [Act.put_comm _ _ _ (by intro x hx; injection hx with hx; subst hx; intro e2; injection e2 with e2; omega), ih (by omega), upd_ne _ _ (by omega)]
theorem slots_at (a : Act) (d : Nat) (vs : Nat → Value) {k : Nat} : ∀ n, k < n → d + n ≤ a.tmps.size → (slots a d vs n).eval (.tmp (d + k)) = vs k := by
  intro n
  induction n with
  | zero => intro h; omega
  | succ n ih =>
    intro h hs
    simp only [slots]
    by_cases e : k = n
    · subst e
      have := slots_size a d vs k
      simp [Act.eval, Act.put]
      intro hx
      omega
    · rw [Act.eval_put (by intro x hx; injection hx with hx; subst hx; intro e2; injection e2 with e2; have e3 : d + k = d + n := e2; omega)]
      exact ih (by omega) (by omega)
theorem slots_out (a : Act) (d : Nat) (vs : Nat → Value) {t : Nat} (ht : t < d) : ∀ n, (slots a d vs n).eval (.tmp t) = a.eval (.tmp t) := by
  intro n
  induction n with
  | zero => rfl
  | succ n ih =>
    simp only [slots]
    rw [Act.eval_put (by intro x hx; injection hx with hx; subst hx; intro e2; injection e2 with e2; have e3 : t = d + n := e2; omega)]
    exact ih
theorem wp_region_slots {P : Program} {id : Nat} {ops : Array Oper} {Q : Exit → Act → World → Prop} {a : Act} {w : World} (hm : P.follows .mixedOrders = true) (hlat : later ops = true) (d n : Nat) (vs0 : Nat → Value) (ha : slots a d vs0 n = a) (E : Act → Prop) (hE : E a)
    (J : Array Bool → (Nat → Value) → World → Prop) (h0 : J (Array.replicate ops.size false) vs0 w.drew)
    (hstep : ∀ a0 listed vs w i o, E a0 → J listed vs w → closed ops listed → i < listed.size → ¬ lst listed i → ops[i]? = some o → (∀ e ∈ o.after, Region.binds .any e = true → lst listed e.on) →
      wpOp P ops Q i (fun a' w' => ∃ vs', a' = slots a0 d vs' n ∧ J (listed.setIfInBounds i true) vs' w') (slots a0 d vs n) w)
    (hend : ∀ listed vs w, J listed vs w → (∀ j, j < ops.size → lst listed j) → Q .normal (slots a d vs n) w) : (Code.region id ops true).wp P Q a w := by
  refine wp_region_any hm ?_
  refine wpAny_inv (I := fun listed a' w' => listed.size = ops.size ∧ closed ops listed ∧ ∃ vs, a' = slots a d vs n ∧ J listed vs w') ?_ ?_ _ _ _ _ ⟨by simp, ?_, vs0, ha.symm, h0⟩ ?_
  · rintro listed _ w' i ⟨hsz, hcl, vs, rfl, hJ⟩ hi
    obtain ⟨h1, o, ho, h2⟩ := mem_ready.1 hi
    obtain ⟨h3, h4⟩ := lst_no h1
    refine wpOp_mono ?_ (hstep a _ _ _ _ o hE hJ hcl h4 h3 ho h2)
    rintro a' w'' ⟨vs', e, hJ'⟩
    refine ⟨by simpa using hsz, ?_, vs', e, hJ'⟩
    intro j oj hoj hj e he hb
    rw [lst_set] at hj ⊢
    rcases hj with ⟨rfl, _⟩ | hj
    · rw [ho] at hoj
      injection hoj with hoj
      subst hoj
      exact .inr (h2 e he hb)
    · exact .inr (hcl j oj hoj hj e he hb)
  · rintro listed _ w' ⟨hsz, _, vs, rfl, hJ⟩ hr
    exact hend _ _ _ hJ (all_listed hlat hsz hr)
  · intro j o _ hj
    exact absurd hj lst_rep
  · simp [unl]
theorem wpOp_of {P : Program} {ops : Array Oper} {Q : Exit → Act → World → Prop} {i : Nat} {K' : Act → World → Prop} {a : Act} {w : World} {o : Oper} (ho : ops[i]? = some o)
    (h : ∀ K : Act → World → Prop, (∀ a w, K' a w → K a w) → if Region.wanted o (yielded ops a.tmps) = true then Oper.wp P o a w K Q else K (a.put o.dst undef) w) : wpOp P ops Q i K' a w := by
  have := h K' (fun _ _ h => h)
  unfold wpOp
  simp only [ho]
  by_cases hw : Region.wanted o (yielded ops a.tmps) = true
  · rw [if_pos hw] at this ⊢
    exact .inl this
  · rw [if_neg hw] at this ⊢
    exact this
theorem wpOp_slots {P : Program} {ops : Array Oper} {Q : Exit → Act → World → Prop} {i d n : Nat} {a0 : Act} {vs : Nat → Value} {w : World} {o : Oper} {J' : (Nat → Value) → World → Prop} (ho : ops[i]? = some o) (hi : i < n) (hsz : d + n ≤ a0.tmps.size)
    (h : ∀ (b : Act) (K : Act → World → Prop), (∀ t, t < d → b.tmps[t]?.getD undef = a0.eval (.tmp t)) → (∀ k, k < n → b.tmps[d + k]?.getD undef = vs k) → (∀ v w', J' (upd vs i v) w' → K (b.put (some (d + i)) v) w') → (∀ w', J' vs w' → K b w') →
      if Region.wanted o (yielded ops b.tmps) = true then Oper.wp P o b w K Q else K (b.put o.dst undef) w) :
    wpOp P ops Q i (fun a' w' => ∃ vs', a' = slots a0 d vs' n ∧ J' vs' w') (slots a0 d vs n) w :=
  wpOp_of ho fun K hK => h _ K (fun t ht => (Array.getD_eq_getD_getElem? ..).symm.trans (slots_out a0 d vs ht n)) (fun k hk => (Array.getD_eq_getD_getElem? ..).symm.trans (slots_at a0 d vs n hk hsz)) (fun v w' hJ => hK _ _ ⟨upd vs i v, slots_put a0 d vs v n hi, hJ⟩) (fun w' hJ => hK _ _ ⟨vs, rfl, hJ⟩)
theorem wpOp_last {P : Program} {ops : Array Oper} {Q : Exit → Act → World → Prop} {i d n : Nat} {a0 : Act} {vs : Nat → Value} {w : World} {o : Oper} {J' : (Nat → Value) → World → Prop} (ho : ops[i]? = some o) (hsz : d + n ≤ a0.tmps.size)
    (h : ∀ (b : Act) (K : Act → World → Prop), (∀ t, t < d → b.tmps[t]?.getD undef = a0.eval (.tmp t)) → (∀ k, k < n → b.tmps[d + k]?.getD undef = vs k) → (∀ w', J' vs w' → K b w') →
      if Region.wanted o (yielded ops b.tmps) = true then Oper.wp P o b w K Q else K (b.put o.dst undef) w) :
    wpOp P ops Q i (fun a' w' => ∃ vs', a' = slots a0 d vs' n ∧ J' vs' w') (slots a0 d vs n) w :=
  wpOp_of ho fun K hK => h _ K (fun t ht => (Array.getD_eq_getD_getElem? ..).symm.trans (slots_out a0 d vs ht n)) (fun k hk => (Array.getD_eq_getD_getElem? ..).symm.trans (slots_at a0 d vs n hk hsz)) (fun w' hJ => hK _ _ ⟨vs, rfl, hJ⟩)
end Go.Proofs.Ytlkfffohjeoooaa
