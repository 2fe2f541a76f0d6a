/- A region that draws its order, walked by what each listed operation has left. -/
import Derived.Test.YtaghjaiaoajpiaaVM1
import Derived.Test.YtaghjaiaoajpiaaVAp
namespace Go.Proofs.Ytaghjaiaoajpiaa
open Go.RowKit
set_option linter.unusedVariables false
set_option linter.unusedSimpArgs false
/-- the frame a, the slots in D being vs -/
def sl (a : Act) (vs : Nat → Value) : List Nat → Act
 | [] => a
 | d :: D => (sl a vs D).put (some d) (vs d)
theorem sl_size (a : Act) (vs : Nat → Value) : ∀ D, (sl a vs D).tmps.size = a.tmps.size := by
 intro D
 induction D with
 | nil => rfl
 | cons d D ih => simp only [sl, Act.put, Array.size_setIfInBounds]; exact ih
theorem sl_congr (a : Act) {vs us : Nat → Value} : ∀ D, (∀ d ∈ D, vs d = us d) → sl a vs D = sl a us D := by
 intro D
 induction D with
 | nil => intro _; rfl
 | cons d D ih => intro h; simp only [sl]; rw [ih (fun k hk => h k (by simp [hk])), h d (by simp)]
theorem sl_put (a : Act) (vs : Nat → Value) {i : Nat} (v : Value) : ∀ D, D.Nodup → i ∈ D → (sl a vs D).put (some i) v = sl a (upd vs i v) D := by
 intro D
 induction D with
 | nil => intro _ h; cases h
 | cons d D ih =>
   intro hn h
   simp only [sl]
   obtain ⟨hd, hn⟩ := List.nodup_cons.1 hn
   by_cases e : i = d
   · subst e
     rw [upd_same, sl_congr a (vs := upd vs i v) (us := vs) D (fun k hk => upd_ne _ _ (fun e => hd (by rw [← e]; exact hk)))]
     simp [Act.put]
   · have hi : i ∈ D := by
      rcases List.mem_cons.1 h with h | h
      · exact absurd h e
      · exact h
     rw [Act.put_comm _ _ _ (by intro x hx; injection hx with hx; subst hx; intro e2; injection e2 with e2; exact e e2), ih hn hi, upd_ne _ _ (Ne.symm e)]
theorem sl_at (a : Act) (vs : Nat → Value) {k : Nat} : ∀ D, D.Nodup → k ∈ D → k < a.tmps.size → (sl a vs D).eval (.tmp k) = vs k := by
 intro D
 induction D with
 | nil => intro _ h; cases h
 | cons d D ih =>
   intro hn h hs
   simp only [sl]
   obtain ⟨hd, hn⟩ := List.nodup_cons.1 hn
   by_cases e : k = d
   · subst e
     have := sl_size a vs D
     simp [Act.eval, Act.put]
     intro hx
     omega
   · have hi : k ∈ D := by
      rcases List.mem_cons.1 h with h | h
      · exact absurd h e
      · exact h
     rw [Act.eval_put (by intro x hx; injection hx with hx; subst hx; intro e2; injection e2 with e2; exact e e2)]
     exact ih hn hi hs
theorem sl_out (a : Act) (vs : Nat → Value) {t : Nat} : ∀ D, t ∉ D → (sl a vs D).eval (.tmp t) = a.eval (.tmp t) := by
 intro D
 induction D with
 | nil => intro _; rfl
 | cons d D ih =>
   intro ht
   simp only [sl]
   rw [Act.eval_put (by intro x hx; injection hx with hx; subst hx; intro e2; injection e2 with e2; exact ht (by rw [e2]; simp))]
   exact ih (fun h => ht (by simp [h]))
theorem put_self (a : Act) {d : Nat} (hd : d < a.tmps.size) : a.put (some d) (a.eval (.tmp d)) = a := by
 obtain ⟨t, f⟩ := a
 simp only [Act.put, Act.eval]
 congr 1
 apply Array.ext
 · simp
 · intro i h1 h2
   rw [Array.getElem_setIfInBounds]
   split
   · rename_i e; subst e; simp [h2]
   · rfl
theorem sl_self (a : Act) : ∀ D, (∀ d ∈ D, d < a.tmps.size) → sl a (fun d => a.eval (.tmp d)) D = a := by
 intro D
 induction D with
 | nil => intro _; rfl
 | cons d D ih =>
   intro h
   simp only [sl]
   rw [ih (fun k hk => h k (by simp [hk])), put_self a (h d (by simp))]
/-- every result goes into D, and what is left of one operation speaks of another's slot only if it waits for it -/
def uok (ops : Array Oper) (D : List Nat) (uses : Nat → List Nat) : Bool := (List.range ops.size).all fun i => match ops[i]? with
 | none => true
 | some o => match o.dst with
   | none => true
   | some d => D.contains d && (List.range ops.size).all fun j => i == j || !(uses j).contains d || (match ops[j]? with
     | none => true
     | some oj => oj.after.any fun e => Region.binds .any e && e.on == i)
theorem uok_dst {ops : Array Oper} {D : List Nat} {uses : Nat → List Nat} (h : uok ops D uses = true) {i d : Nat} {o : Oper} (ho : ops[i]? = some o) (hd : o.dst = some d) : d ∈ D ∧ ∀ j oj, ops[j]? = some oj → i ≠ j → d ∈ uses j → ∃ e ∈ oj.after, Region.binds .any e = true ∧ e.on = i := by
 have hi : i < ops.size := (Array.getElem?_eq_some_iff.1 ho).1
 have h1 := List.all_eq_true.1 h i (List.mem_range.2 hi)
 simp only [ho, hd, Bool.and_eq_true, List.contains_iff_mem] at h1
 refine ⟨h1.1, fun j oj hoj hne hu => ?_⟩
 have hj : j < ops.size := (Array.getElem?_eq_some_iff.1 hoj).1
 have h2 := List.all_eq_true.1 h1.2 j (List.mem_range.2 hj)
 simp only [hoj, Bool.or_eq_true, beq_iff_eq, Bool.not_eq_true', List.contains_eq_mem, decide_eq_false_iff_not] at h2
 rcases h2 with (h2 | h2) | h2
 · exact absurd h2 hne
 · exact absurd hu h2
 · obtain ⟨k, hk, hb⟩ := Array.any_eq_true.1 h2
   simp only [Bool.and_eq_true, beq_iff_eq] at hb
   exact ⟨_, Array.getElem_mem hk, hb.1, hb.2⟩
def laterB (ops : Array Oper) : Bool := (List.range ops.size).all fun j => match ops[j]? with | none => true | some o => o.after.all fun e => !Region.binds .any e || decide (e.on < j)
theorem all_listedB {ops : Array Oper} {listed : Array Bool} (hl : laterB ops = true) (hsz : listed.size = ops.size) (hr : Region.ready .any ops listed = []) : ∀ j, j < ops.size → lst listed j := by
 intro j
 induction j using Nat.strongRecOn with
 | _ j ih =>
   intro hj
   rcases hb : listed.getD j true with _ | _
   · exfalso
     have hm : j ∈ Region.ready .any ops listed := by
      refine mem_ready.2 ⟨hb, ops[j], by simp [hj], fun e he hbe => ?_⟩
      have h1 := List.all_eq_true.1 hl j (by simpa using hj)
      simp only [Array.getElem?_eq_getElem hj, Array.all_eq_true_iff_forall_mem, Bool.or_eq_true, decide_eq_true_eq] at h1
      have h2 : e.on < j := by
       rcases h1 e he with h | h
       · rw [hbe] at h; cases h
       · exact h
      exact ih e.on h2 (by omega)
     rw [hr] at hm
     cases hm
   · unfold lst
     have : j < listed.size := by omega
     simp [this] at hb ⊢
     exact hb
theorem unl_rep (n : Nat) : unl (Array.replicate n false) = n := by simp [unl]
theorem wp_region_left {P : Program} {id : Nat} {ops : Array Oper} {Q : Exit → Act → World → Prop} {a : Act} {w : World} (hm : P.follows .mixedOrders = true) (hlat : laterB ops = true) (D : List Nat) (uses : Nat → List Nat) (hu : uok ops D uses = true) (hnd : D.Nodup) (mx : Nat) (hD : (D.all fun d => decide (d < mx)) = true) (hmx : mx ≤ a.tmps.size) (E : Act → Prop) (hE : E a)
 (I : Nat → World → Prop) (R : World → World → Prop) (st : Nat) (Rst : World → World → Prop) (G : Nat → (Nat → Value) → World → Prop) (hI0 : I 0 w.drew)
 (hR : ∀ j vs us w w', G j vs w → (∀ d ∈ uses j, us d = vs d) → R w w' → G j us w')
 (hS : ∀ j vs us w w', j ≠ st → G j vs w → (∀ d ∈ uses j, us d = vs d) → Rst w w' → G j us w')
 (hstep : ∀ a0, E a0 → ∀ i o, ops[i]? = some o → ∀ (Qx : Exit → Act → World → Prop) vs wx b K k, I k wx → (∀ j, (o.after.any fun e => Region.binds .any e && e.on == j) = true → G j vs wx) →
  (∀ t, t ∉ D → b.tmps[t]?.getD undef = a0.eval (.tmp t)) → (∀ d ∈ D, b.tmps[d]?.getD undef = vs d) →
  (∀ v w', I (k + 1) w' → (if i = st then Rst wx w' else R wx w') → G i (match o.dst with | some d => upd vs d v | none => vs) w' → K (b.put o.dst v) w') →
  if Region.wanted o (yielded ops b.tmps) = true then Oper.wp P o b wx K Qx else K (b.put o.dst undef) wx)
 (hend : ∀ vs wx k, I k wx → (∀ j, j < ops.size → G j vs wx) → Q .normal (sl a vs D) wx) : (Code.region id ops true).wp P Q a w := by
 have hsz : ∀ d ∈ D, d < a.tmps.size := fun d hd => Nat.lt_of_lt_of_le (by simpa using List.all_eq_true.1 hD d hd) hmx
 refine wp_region_any hm ?_
 refine wpAny_inv (I := fun listed a' w' => listed.size = ops.size ∧ closed ops listed ∧ ∃ vs, a' = sl a vs D ∧ I (ops.size - unl listed) w' ∧ ∀ j, lst listed j → G j vs w') ?_ ?_ _ _ _ _ ⟨by simp, ?_, _, (sl_self a D hsz).symm, ?_, ?_⟩ ?_
 · rintro listed _ w' i ⟨hls, hcl, vs, rfl, hI, hG⟩ hi
   obtain ⟨h1, o, ho, h2⟩ := mem_ready.1 hi
   obtain ⟨h3, h4⟩ := lst_no h1
   have hn := unl_set h1
   have hle : unl listed ≤ ops.size := by rw [← hls]; unfold unl; have := List.count_le_length (a := false) (l := listed.toList); simpa using this
   refine wpOp_of ho fun K hK => ?_
   refine hstep a hE i o ho Q vs w' (sl a vs D) K _ hI (fun j hj => ?dep) (fun t ht => (Array.getD_eq_getD_getElem? ..).symm.trans (sl_out a vs D ht)) (fun d hd => (Array.getD_eq_getD_getElem? ..).symm.trans (sl_at a vs D hnd hd (hsz d hd))) ?_
   case dep =>
    obtain ⟨k, hk, hb⟩ := Array.any_eq_true.1 hj
    simp only [Bool.and_eq_true, beq_iff_eq] at hb
    rw [← hb.2]
    exact hG _ (h2 _ (Array.getElem_mem hk) hb.1)
   intro v w'' hI' hR' hG'
   have key : ∀ us, (∀ d, (o.dst ≠ some d) → us d = vs d) → G i us w'' → ∀ j, lst (listed.setIfInBounds i true) j → G j us w'' := by
    intro us hus hgi j hj
    by_cases e : j = i
    · subst e; exact hgi
    · have hj' := (lst_set.1 hj).resolve_left (fun h => e h.1)
      have hag : ∀ d ∈ uses j, us d = vs d := by
       intro d hd
       refine hus d fun hdst => ?_
       obtain ⟨_, hall⟩ := uok_dst hu ho hdst
       have hjs : j < ops.size := by
        rcases Nat.lt_or_ge j listed.size with h | h
        · omega
        · unfold lst at hj'
          simp [Array.getD, Nat.not_lt.2 h] at hj'
       obtain ⟨e2, he2, hb2, hon⟩ := hall j ops[j] (by simp [hjs]) (Ne.symm e) hd
       have := hcl j ops[j] (by simp [hjs]) hj' e2 he2 hb2
       rw [hon] at this
       exact h3 this
      by_cases hst : i = st
      · rw [if_pos hst] at hR'
        exact hS j vs us _ _ (by omega) (hG j hj') hag hR'
      · rw [if_neg hst] at hR'
        exact hR j vs us _ _ (hG j hj') hag hR'
   have hclosed : closed ops (listed.setIfInBounds i true) := by
    intro j oj hoj hj e he hb
    rw [lst_set] at hj ⊢
    rcases hj with ⟨rfl, _⟩ | hj
    · rw [ho] at hoj
      injection hoj with hoj
      subst hoj
      exact .inr (h2 e he hb)
    · exact .inr (hcl j oj hoj hj e he hb)
   have hcnt : ops.size - unl (listed.setIfInBounds i true) = ops.size - unl listed + 1 := by omega
   rcases hd : o.dst with _ | d
   · rw [hd] at hG'
     refine hK _ _ ⟨by simpa using hls, hclosed, vs, ?_, by rw [hcnt]; exact hI', key vs (fun _ _ => rfl) hG'⟩
     rfl
   · rw [hd] at hG'
     refine hK _ _ ⟨by simpa using hls, hclosed, upd vs d v, sl_put a vs v D hnd (uok_dst hu ho hd).1, by rw [hcnt]; exact hI', key _ (fun x hx => upd_ne _ _ (fun e => hx (by rw [hd, e]))) hG'⟩
 · rintro listed _ w' ⟨hls, _, vs, rfl, hI, hG⟩ hr
   exact hend vs w' _ hI fun j hj => hG j (all_listedB hlat hls hr j hj)
 · intro j o _ hj
   exact absurd hj lst_rep
 · rw [unl_rep, Nat.sub_self]; exact hI0
 · intro j hj
   exact absurd hj lst_rep
 · simp [unl]
/-- blocks of other types than T are as they were, T's keep their size -/
def KeepW (T : TypeId) (w w' : World) : Prop := w.heap.size ≤ w'.heap.size ∧ (∀ b t cs, Blk w b t cs → t ≠ T → Blk w' b t cs) ∧ ∀ b cs, Blk w b T cs → ∃ cs', Blk w' b T cs' ∧ cs'.size = cs.size
theorem KeepW.refl (T : TypeId) (w : World) : KeepW T w w := ⟨Nat.le_refl _, fun _ _ _ h _ => h, fun _ cs h => ⟨cs, h, rfl⟩⟩
theorem KeepW.own {T : TypeId} {w w' : World} (h : KeepW T w w') {B e size n : Nat} {v : Value} {xs : List Value} (ho : w.ownsRow B e size v n xs) (he : e ≠ T) : w'.ownsRow B e size v n xs := by
 refine ⟨ho.1, ?_⟩
 rcases ho.2 with hn | ⟨g, cap, cur, rfl, hb, hgg, rest⟩
 · exact .inl hn
 · exact .inr ⟨g, cap, cur, rfl, hb, h.2.1 g e cur hgg he, rest⟩
theorem KeepW.set {T : TypeId} {w w1 : World} (h : KeepW T w w1) {g : Nat} {cs : Array Value} (hp : Blk w1 g T cs) (i : Nat) (u : Value) : KeepW T w (w1.setCell ⟨g, i, none⟩ u) := by
 refine ⟨Nat.le_trans h.1 (by simp), fun b t cs' hb ht => (h.2.1 b t cs' hb ht).setF (fun e => ht ?_) u, fun b cs' hb => ?_⟩
 · have h2 := h.2.1 b t cs' hb ht
   have e : g = b := e
   rw [← e] at h2
   unfold Blk at h2 hp
   rw [h2] at hp
   injection hp with hp
   injection hp
 · obtain ⟨c2, hc2, hz⟩ := h.2.2 b cs' hb
   by_cases e : g = b
   · subst e
     exact ⟨_, hc2.set_ i u, by simp [hz]⟩
   · exact ⟨c2, hc2.setF e u, hz⟩
theorem arr2 {cs : Array Value} (h : cs.size = 2) : ∃ c0 c1, cs = #[c0, c1] := by
 obtain ⟨l⟩ := cs
 match l, h with
 | [c0, c1], _ => exact ⟨c0, c1, rfl⟩
theorem arr3 {cs : Array Value} (h : cs.size = 3) : ∃ c0 c1 c2, cs = #[c0, c1, c2] := by
 obtain ⟨l⟩ := cs
 match l, h with
 | [c0, c1, c2], _ => exact ⟨c0, c1, c2, rfl⟩
theorem arr4 {cs : Array Value} (h : cs.size = 4) : ∃ c0 c1 c2 c3, cs = #[c0, c1, c2, c3] := by
 obtain ⟨l⟩ := cs
 match l, h with
 | [c0, c1, c2, c3], _ => exact ⟨c0, c1, c2, c3, rfl⟩
theorem arr5 {cs : Array Value} (h : cs.size = 5) : ∃ c0 c1 c2 c3 c4, cs = #[c0, c1, c2, c3, c4] := by
 obtain ⟨l⟩ := cs
 match l, h with
 | [c0, c1, c2, c3, c4], _ => exact ⟨c0, c1, c2, c3, c4, rfl⟩
theorem arr6 {cs : Array Value} (h : cs.size = 6) : ∃ c0 c1 c2 c3 c4 c5, cs = #[c0, c1, c2, c3, c4, c5] := by
 obtain ⟨l⟩ := cs
 match l, h with
 | [c0, c1, c2, c3, c4, c5], _ => exact ⟨c0, c1, c2, c3, c4, c5, rfl⟩
theorem arr7 {cs : Array Value} (h : cs.size = 7) : ∃ c0 c1 c2 c3 c4 c5 c6, cs = #[c0, c1, c2, c3, c4, c5, c6] := by
 obtain ⟨l⟩ := cs
 match l, h with
 | [c0, c1, c2, c3, c4, c5, c6], _ => exact ⟨c0, c1, c2, c3, c4, c5, c6, rfl⟩
theorem put2 {w : World} {g : Nat} {T : TypeId} {c0 c1 a0 a1 : Value} (h : Blk w g T #[c0, c1]) : Blk ((w.setCell ⟨g, 0, none⟩ a0).setCell ⟨g, 1, none⟩ a1) g T #[a0, a1] := by
 have k0 : Blk (w.setCell ⟨g, 0, none⟩ a0) g T #[a0, c1] := h.set_ 0 a0
 have k1 : Blk ((w.setCell ⟨g, 0, none⟩ a0).setCell ⟨g, 1, none⟩ a1) g T #[a0, a1] := k0.set_ 1 a1
 exact k1
theorem keep2 {w : World} {g : Nat} {T : TypeId} {cs : Array Value} {a0 a1 : Value} (h : Blk w g T cs) : KeepW T w ((w.setCell ⟨g, 0, none⟩ a0).setCell ⟨g, 1, none⟩ a1) := by
 have b0 : Blk (w.setCell ⟨g, 0, none⟩ a0) g T _ := h.set_ 0 a0
 have k0 : KeepW T w (w.setCell ⟨g, 0, none⟩ a0) := KeepW.set (KeepW.refl T w) h 0 a0
 have b1 : Blk ((w.setCell ⟨g, 0, none⟩ a0).setCell ⟨g, 1, none⟩ a1) g T _ := b0.set_ 1 a1
 have k1 : KeepW T w ((w.setCell ⟨g, 0, none⟩ a0).setCell ⟨g, 1, none⟩ a1) := KeepW.set k0 b0 1 a1
 exact k1
theorem bel2 {w0 w : World} {g B : Nat} {a0 a1 : Value} (h : Below B w0 w) (hg : B ≤ g) : Below B w0 ((w.setCell ⟨g, 0, none⟩ a0).setCell ⟨g, 1, none⟩ a1) := by
 have k0 : Below B w0 (w.setCell ⟨g, 0, none⟩ a0) := h.setCell (p := ⟨g, 0, none⟩) hg a0
 have k1 : Below B w0 ((w.setCell ⟨g, 0, none⟩ a0).setCell ⟨g, 1, none⟩ a1) := k0.setCell (p := ⟨g, 1, none⟩) hg a1
 exact k1
theorem put3 {w : World} {g : Nat} {T : TypeId} {c0 c1 c2 a0 a1 a2 : Value} (h : Blk w g T #[c0, c1, c2]) : Blk (((w.setCell ⟨g, 0, none⟩ a0).setCell ⟨g, 1, none⟩ a1).setCell ⟨g, 2, none⟩ a2) g T #[a0, a1, a2] := by
 have k0 : Blk (w.setCell ⟨g, 0, none⟩ a0) g T #[a0, c1, c2] := h.set_ 0 a0
 have k1 : Blk ((w.setCell ⟨g, 0, none⟩ a0).setCell ⟨g, 1, none⟩ a1) g T #[a0, a1, c2] := k0.set_ 1 a1
 have k2 : Blk (((w.setCell ⟨g, 0, none⟩ a0).setCell ⟨g, 1, none⟩ a1).setCell ⟨g, 2, none⟩ a2) g T #[a0, a1, a2] := k1.set_ 2 a2
 exact k2
theorem keep3 {w : World} {g : Nat} {T : TypeId} {cs : Array Value} {a0 a1 a2 : Value} (h : Blk w g T cs) : KeepW T w (((w.setCell ⟨g, 0, none⟩ a0).setCell ⟨g, 1, none⟩ a1).setCell ⟨g, 2, none⟩ a2) := by
 have b0 : Blk (w.setCell ⟨g, 0, none⟩ a0) g T _ := h.set_ 0 a0
 have k0 : KeepW T w (w.setCell ⟨g, 0, none⟩ a0) := KeepW.set (KeepW.refl T w) h 0 a0
 have b1 : Blk ((w.setCell ⟨g, 0, none⟩ a0).setCell ⟨g, 1, none⟩ a1) g T _ := b0.set_ 1 a1
 have k1 : KeepW T w ((w.setCell ⟨g, 0, none⟩ a0).setCell ⟨g, 1, none⟩ a1) := KeepW.set k0 b0 1 a1
 have b2 : Blk (((w.setCell ⟨g, 0, none⟩ a0).setCell ⟨g, 1, none⟩ a1).setCell ⟨g, 2, none⟩ a2) g T _ := b1.set_ 2 a2
 have k2 : KeepW T w (((w.setCell ⟨g, 0, none⟩ a0).setCell ⟨g, 1, none⟩ a1).setCell ⟨g, 2, none⟩ a2) := KeepW.set k1 b1 2 a2
 exact k2
theorem bel3 {w0 w : World} {g B : Nat} {a0 a1 a2 : Value} (h : Below B w0 w) (hg : B ≤ g) : Below B w0 (((w.setCell ⟨g, 0, none⟩ a0).setCell ⟨g, 1, none⟩ a1).setCell ⟨g, 2, none⟩ a2) := by
 have k0 : Below B w0 (w.setCell ⟨g, 0, none⟩ a0) := h.setCell (p := ⟨g, 0, none⟩) hg a0
 have k1 : Below B w0 ((w.setCell ⟨g, 0, none⟩ a0).setCell ⟨g, 1, none⟩ a1) := k0.setCell (p := ⟨g, 1, none⟩) hg a1
 have k2 : Below B w0 (((w.setCell ⟨g, 0, none⟩ a0).setCell ⟨g, 1, none⟩ a1).setCell ⟨g, 2, none⟩ a2) := k1.setCell (p := ⟨g, 2, none⟩) hg a2
 exact k2
theorem put4 {w : World} {g : Nat} {T : TypeId} {c0 c1 c2 c3 a0 a1 a2 a3 : Value} (h : Blk w g T #[c0, c1, c2, c3]) : Blk ((((w.setCell ⟨g, 0, none⟩ a0).setCell ⟨g, 1, none⟩ a1).setCell ⟨g, 2, none⟩ a2).setCell ⟨g, 3, none⟩ a3) g T #[a0, a1, a2, a3] := by
 have k0 : Blk (w.setCell ⟨g, 0, none⟩ a0) g T #[a0, c1, c2, c3] := h.set_ 0 a0
 have k1 : Blk ((w.setCell ⟨g, 0, none⟩ a0).setCell ⟨g, 1, none⟩ a1) g T #[a0, a1, c2, c3] := k0.set_ 1 a1
 have k2 : Blk (((w.setCell ⟨g, 0, none⟩ a0).setCell ⟨g, 1, none⟩ a1).setCell ⟨g, 2, none⟩ a2) g T #[a0, a1, a2, c3] := k1.set_ 2 a2
 have k3 : Blk ((((w.setCell ⟨g, 0, none⟩ a0).setCell ⟨g, 1, none⟩ a1).setCell ⟨g, 2, none⟩ a2).setCell ⟨g, 3, none⟩ a3) g T #[a0, a1, a2, a3] := k2.set_ 3 a3
 exact k3
theorem keep4 {w : World} {g : Nat} {T : TypeId} {cs : Array Value} {a0 a1 a2 a3 : Value} (h : Blk w g T cs) : KeepW T w ((((w.setCell ⟨g, 0, none⟩ a0).setCell ⟨g, 1, none⟩ a1).setCell ⟨g, 2, none⟩ a2).setCell ⟨g, 3, none⟩ a3) := by
 have b0 : Blk (w.setCell ⟨g, 0, none⟩ a0) g T _ := h.set_ 0 a0
 have k0 : KeepW T w (w.setCell ⟨g, 0, none⟩ a0) := KeepW.set (KeepW.refl T w) h 0 a0
 have b1 : Blk ((w.setCell ⟨g, 0, none⟩ a0).setCell ⟨g, 1, none⟩ a1) g T _ := b0.set_ 1 a1
 have k1 : KeepW T w ((w.setCell ⟨g, 0, none⟩ a0).setCell ⟨g, 1, none⟩ a1) := KeepW.set k0 b0 1 a1
 have b2 : Blk (((w.setCell ⟨g, 0, none⟩ a0).setCell ⟨g, 1, none⟩ a1).setCell ⟨g, 2, none⟩ a2) g T _ := b1.set_ 2 a2
 have k2 : KeepW T w (((w.setCell ⟨g, 0, none⟩ a0).setCell ⟨g, 1, none⟩ a1).setCell ⟨g, 2, none⟩ a2) := KeepW.set k1 b1 2 a2
 have b3 : Blk ((((w.setCell ⟨g, 0, none⟩ a0).setCell ⟨g, 1, none⟩ a1).setCell ⟨g, 2, none⟩ a2).setCell ⟨g, 3, none⟩ a3) g T _ := b2.set_ 3 a3
 have k3 : KeepW T w ((((w.setCell ⟨g, 0, none⟩ a0).setCell ⟨g, 1, none⟩ a1).setCell ⟨g, 2, none⟩ a2).setCell ⟨g, 3, none⟩ a3) := KeepW.set k2 b2 3 a3
 exact k3
theorem bel4 {w0 w : World} {g B : Nat} {a0 a1 a2 a3 : Value} (h : Below B w0 w) (hg : B ≤ g) : Below B w0 ((((w.setCell ⟨g, 0, none⟩ a0).setCell ⟨g, 1, none⟩ a1).setCell ⟨g, 2, none⟩ a2).setCell ⟨g, 3, none⟩ a3) := by
 have k0 : Below B w0 (w.setCell ⟨g, 0, none⟩ a0) := h.setCell (p := ⟨g, 0, none⟩) hg a0
 have k1 : Below B w0 ((w.setCell ⟨g, 0, none⟩ a0).setCell ⟨g, 1, none⟩ a1) := k0.setCell (p := ⟨g, 1, none⟩) hg a1
 have k2 : Below B w0 (((w.setCell ⟨g, 0, none⟩ a0).setCell ⟨g, 1, none⟩ a1).setCell ⟨g, 2, none⟩ a2) := k1.setCell (p := ⟨g, 2, none⟩) hg a2
 have k3 : Below B w0 ((((w.setCell ⟨g, 0, none⟩ a0).setCell ⟨g, 1, none⟩ a1).setCell ⟨g, 2, none⟩ a2).setCell ⟨g, 3, none⟩ a3) := k2.setCell (p := ⟨g, 3, none⟩) hg a3
 exact k3
theorem put5 {w : World} {g : Nat} {T : TypeId} {c0 c1 c2 c3 c4 a0 a1 a2 a3 a4 : Value} (h : Blk w g T #[c0, c1, c2, c3, c4]) : Blk (((((w.setCell ⟨g, 0, none⟩ a0).setCell ⟨g, 1, none⟩ a1).setCell ⟨g, 2, none⟩ a2).setCell ⟨g, 3, none⟩ a3).setCell ⟨g, 4, none⟩ a4) g T #[a0, a1, a2, a3, a4] := by
 have k0 : Blk (w.setCell ⟨g, 0, none⟩ a0) g T #[a0, c1, c2, c3, c4] := h.set_ 0 a0
 have k1 : Blk ((w.setCell ⟨g, 0, none⟩ a0).setCell ⟨g, 1, none⟩ a1) g T #[a0, a1, c2, c3, c4] := k0.set_ 1 a1
 have k2 : Blk (((w.setCell ⟨g, 0, none⟩ a0).setCell ⟨g, 1, none⟩ a1).setCell ⟨g, 2, none⟩ a2) g T #[a0, a1, a2, c3, c4] := k1.set_ 2 a2
 have k3 : Blk ((((w.setCell ⟨g, 0, none⟩ a0).setCell ⟨g, 1, none⟩ a1).setCell ⟨g, 2, none⟩ a2).setCell ⟨g, 3, none⟩ a3) g T #[a0, a1, a2, a3, c4] := k2.set_ 3 a3
 have k4 : Blk (((((w.setCell ⟨g, 0, none⟩ a0).setCell ⟨g, 1, none⟩ a1).setCell ⟨g, 2, none⟩ a2).setCell ⟨g, 3, none⟩ a3).setCell ⟨g, 4, none⟩ a4) g T #[a0, a1, a2, a3, a4] := k3.set_ 4 a4
 exact k4
theorem keep5 {w : World} {g : Nat} {T : TypeId} {cs : Array Value} {a0 a1 a2 a3 a4 : Value} (h : Blk w g T cs) : KeepW T w (((((w.setCell ⟨g, 0, none⟩ a0).setCell ⟨g, 1, none⟩ a1).setCell ⟨g, 2, none⟩ a2).setCell ⟨g, 3, none⟩ a3).setCell ⟨g, 4, none⟩ a4) := by
 have b0 : Blk (w.setCell ⟨g, 0, none⟩ a0) g T _ := h.set_ 0 a0
 have k0 : KeepW T w (w.setCell ⟨g, 0, none⟩ a0) := KeepW.set (KeepW.refl T w) h 0 a0
 have b1 : Blk ((w.setCell ⟨g, 0, none⟩ a0).setCell ⟨g, 1, none⟩ a1) g T _ := b0.set_ 1 a1
 have k1 : KeepW T w ((w.setCell ⟨g, 0, none⟩ a0).setCell ⟨g, 1, none⟩ a1) := KeepW.set k0 b0 1 a1
 have b2 : Blk (((w.setCell ⟨g, 0, none⟩ a0).setCell ⟨g, 1, none⟩ a1).setCell ⟨g, 2, none⟩ a2) g T _ := b1.set_ 2 a2
 have k2 : KeepW T w (((w.setCell ⟨g, 0, none⟩ a0).setCell ⟨g, 1, none⟩ a1).setCell ⟨g, 2, none⟩ a2) := KeepW.set k1 b1 2 a2
 have b3 : Blk ((((w.setCell ⟨g, 0, none⟩ a0).setCell ⟨g, 1, none⟩ a1).setCell ⟨g, 2, none⟩ a2).setCell ⟨g, 3, none⟩ a3) g T _ := b2.set_ 3 a3
 have k3 : KeepW T w ((((w.setCell ⟨g, 0, none⟩ a0).setCell ⟨g, 1, none⟩ a1).setCell ⟨g, 2, none⟩ a2).setCell ⟨g, 3, none⟩ a3) := KeepW.set k2 b2 3 a3
 have b4 : Blk (((((w.setCell ⟨g, 0, none⟩ a0).setCell ⟨g, 1, none⟩ a1).setCell ⟨g, 2, none⟩ a2).setCell ⟨g, 3, none⟩ a3).setCell ⟨g, 4, none⟩ a4) g T _ := b3.set_ 4 a4
 have k4 : KeepW T w (((((w.setCell ⟨g, 0, none⟩ a0).setCell ⟨g, 1, none⟩ a1).setCell ⟨g, 2, none⟩ a2).setCell ⟨g, 3, none⟩ a3).setCell ⟨g, 4, none⟩ a4) := KeepW.set k3 b3 4 a4
 exact k4
theorem bel5 {w0 w : World} {g B : Nat} {a0 a1 a2 a3 a4 : Value} (h : Below B w0 w) (hg : B ≤ g) : Below B w0 (((((w.setCell ⟨g, 0, none⟩ a0).setCell ⟨g, 1, none⟩ a1).setCell ⟨g, 2, none⟩ a2).setCell ⟨g, 3, none⟩ a3).setCell ⟨g, 4, none⟩ a4) := by
 have k0 : Below B w0 (w.setCell ⟨g, 0, none⟩ a0) := h.setCell (p := ⟨g, 0, none⟩) hg a0
 have k1 : Below B w0 ((w.setCell ⟨g, 0, none⟩ a0).setCell ⟨g, 1, none⟩ a1) := k0.setCell (p := ⟨g, 1, none⟩) hg a1
 have k2 : Below B w0 (((w.setCell ⟨g, 0, none⟩ a0).setCell ⟨g, 1, none⟩ a1).setCell ⟨g, 2, none⟩ a2) := k1.setCell (p := ⟨g, 2, none⟩) hg a2
 have k3 : Below B w0 ((((w.setCell ⟨g, 0, none⟩ a0).setCell ⟨g, 1, none⟩ a1).setCell ⟨g, 2, none⟩ a2).setCell ⟨g, 3, none⟩ a3) := k2.setCell (p := ⟨g, 3, none⟩) hg a3
 have k4 : Below B w0 (((((w.setCell ⟨g, 0, none⟩ a0).setCell ⟨g, 1, none⟩ a1).setCell ⟨g, 2, none⟩ a2).setCell ⟨g, 3, none⟩ a3).setCell ⟨g, 4, none⟩ a4) := k3.setCell (p := ⟨g, 4, none⟩) hg a4
 exact k4
theorem put6 {w : World} {g : Nat} {T : TypeId} {c0 c1 c2 c3 c4 c5 a0 a1 a2 a3 a4 a5 : Value} (h : Blk w g T #[c0, c1, c2, c3, c4, c5]) : Blk ((((((w.setCell ⟨g, 0, none⟩ a0).setCell ⟨g, 1, none⟩ a1).setCell ⟨g, 2, none⟩ a2).setCell ⟨g, 3, none⟩ a3).setCell ⟨g, 4, none⟩ a4).setCell ⟨g, 5, none⟩ a5) g T #[a0, a1, a2, a3, a4, a5] := by
 have k0 : Blk (w.setCell ⟨g, 0, none⟩ a0) g T #[a0, c1, c2, c3, c4, c5] := h.set_ 0 a0
 have k1 : Blk ((w.setCell ⟨g, 0, none⟩ a0).setCell ⟨g, 1, none⟩ a1) g T #[a0, a1, c2, c3, c4, c5] := k0.set_ 1 a1
 have k2 : Blk (((w.setCell ⟨g, 0, none⟩ a0).setCell ⟨g, 1, none⟩ a1).setCell ⟨g, 2, none⟩ a2) g T #[a0, a1, a2, c3, c4, c5] := k1.set_ 2 a2
 have k3 : Blk ((((w.setCell ⟨g, 0, none⟩ a0).setCell ⟨g, 1, none⟩ a1).setCell ⟨g, 2, none⟩ a2).setCell ⟨g, 3, none⟩ a3) g T #[a0, a1, a2, a3, c4, c5] := k2.set_ 3 a3
 have k4 : Blk (((((w.setCell ⟨g, 0, none⟩ a0).setCell ⟨g, 1, none⟩ a1).setCell ⟨g, 2, none⟩ a2).setCell ⟨g, 3, none⟩ a3).setCell ⟨g, 4, none⟩ a4) g T #[a0, a1, a2, a3, a4, c5] := k3.set_ 4 a4
 have k5 : Blk ((((((w.setCell ⟨g, 0, none⟩ a0).setCell ⟨g, 1, none⟩ a1).setCell ⟨g, 2, none⟩ a2).setCell ⟨g, 3, none⟩ a3).setCell ⟨g, 4, none⟩ a4).setCell ⟨g, 5, none⟩ a5) g T #[a0, a1, a2, a3, a4, a5] := k4.set_ 5 a5
 exact k5
theorem keep6 {w : World} {g : Nat} {T : TypeId} {cs : Array Value} {a0 a1 a2 a3 a4 a5 : Value} (h : Blk w g T cs) : KeepW T w ((((((w.setCell ⟨g, 0, none⟩ a0).setCell ⟨g, 1, none⟩ a1).setCell ⟨g, 2, none⟩ a2).setCell ⟨g, 3, none⟩ a3).setCell ⟨g, 4, none⟩ a4).setCell ⟨g, 5, none⟩ a5) := by
 have b0 : Blk (w.setCell ⟨g, 0, none⟩ a0) g T _ := h.set_ 0 a0
 have k0 : KeepW T w (w.setCell ⟨g, 0, none⟩ a0) := KeepW.set (KeepW.refl T w) h 0 a0
 have b1 : Blk ((w.setCell ⟨g, 0, none⟩ a0).setCell ⟨g, 1, none⟩ a1) g T _ := b0.set_ 1 a1
 have k1 : KeepW T w ((w.setCell ⟨g, 0, none⟩ a0).setCell ⟨g, 1, none⟩ a1) := KeepW.set k0 b0 1 a1
 have b2 : Blk (((w.setCell ⟨g, 0, none⟩ a0).setCell ⟨g, 1, none⟩ a1).setCell ⟨g, 2, none⟩ a2) g T _ := b1.set_ 2 a2
 have k2 : KeepW T w (((w.setCell ⟨g, 0, none⟩ a0).setCell ⟨g, 1, none⟩ a1).setCell ⟨g, 2, none⟩ a2) := KeepW.set k1 b1 2 a2
 have b3 : Blk ((((w.setCell ⟨g, 0, none⟩ a0).setCell ⟨g, 1, none⟩ a1).setCell ⟨g, 2, none⟩ a2).setCell ⟨g, 3, none⟩ a3) g T _ := b2.set_ 3 a3
 have k3 : KeepW T w ((((w.setCell ⟨g, 0, none⟩ a0).setCell ⟨g, 1, none⟩ a1).setCell ⟨g, 2, none⟩ a2).setCell ⟨g, 3, none⟩ a3) := KeepW.set k2 b2 3 a3
 have b4 : Blk (((((w.setCell ⟨g, 0, none⟩ a0).setCell ⟨g, 1, none⟩ a1).setCell ⟨g, 2, none⟩ a2).setCell ⟨g, 3, none⟩ a3).setCell ⟨g, 4, none⟩ a4) g T _ := b3.set_ 4 a4
 have k4 : KeepW T w (((((w.setCell ⟨g, 0, none⟩ a0).setCell ⟨g, 1, none⟩ a1).setCell ⟨g, 2, none⟩ a2).setCell ⟨g, 3, none⟩ a3).setCell ⟨g, 4, none⟩ a4) := KeepW.set k3 b3 4 a4
 have b5 : Blk ((((((w.setCell ⟨g, 0, none⟩ a0).setCell ⟨g, 1, none⟩ a1).setCell ⟨g, 2, none⟩ a2).setCell ⟨g, 3, none⟩ a3).setCell ⟨g, 4, none⟩ a4).setCell ⟨g, 5, none⟩ a5) g T _ := b4.set_ 5 a5
 have k5 : KeepW T w ((((((w.setCell ⟨g, 0, none⟩ a0).setCell ⟨g, 1, none⟩ a1).setCell ⟨g, 2, none⟩ a2).setCell ⟨g, 3, none⟩ a3).setCell ⟨g, 4, none⟩ a4).setCell ⟨g, 5, none⟩ a5) := KeepW.set k4 b4 5 a5
 exact k5
theorem bel6 {w0 w : World} {g B : Nat} {a0 a1 a2 a3 a4 a5 : Value} (h : Below B w0 w) (hg : B ≤ g) : Below B w0 ((((((w.setCell ⟨g, 0, none⟩ a0).setCell ⟨g, 1, none⟩ a1).setCell ⟨g, 2, none⟩ a2).setCell ⟨g, 3, none⟩ a3).setCell ⟨g, 4, none⟩ a4).setCell ⟨g, 5, none⟩ a5) := by
 have k0 : Below B w0 (w.setCell ⟨g, 0, none⟩ a0) := h.setCell (p := ⟨g, 0, none⟩) hg a0
 have k1 : Below B w0 ((w.setCell ⟨g, 0, none⟩ a0).setCell ⟨g, 1, none⟩ a1) := k0.setCell (p := ⟨g, 1, none⟩) hg a1
 have k2 : Below B w0 (((w.setCell ⟨g, 0, none⟩ a0).setCell ⟨g, 1, none⟩ a1).setCell ⟨g, 2, none⟩ a2) := k1.setCell (p := ⟨g, 2, none⟩) hg a2
 have k3 : Below B w0 ((((w.setCell ⟨g, 0, none⟩ a0).setCell ⟨g, 1, none⟩ a1).setCell ⟨g, 2, none⟩ a2).setCell ⟨g, 3, none⟩ a3) := k2.setCell (p := ⟨g, 3, none⟩) hg a3
 have k4 : Below B w0 (((((w.setCell ⟨g, 0, none⟩ a0).setCell ⟨g, 1, none⟩ a1).setCell ⟨g, 2, none⟩ a2).setCell ⟨g, 3, none⟩ a3).setCell ⟨g, 4, none⟩ a4) := k3.setCell (p := ⟨g, 4, none⟩) hg a4
 have k5 : Below B w0 ((((((w.setCell ⟨g, 0, none⟩ a0).setCell ⟨g, 1, none⟩ a1).setCell ⟨g, 2, none⟩ a2).setCell ⟨g, 3, none⟩ a3).setCell ⟨g, 4, none⟩ a4).setCell ⟨g, 5, none⟩ a5) := k4.setCell (p := ⟨g, 5, none⟩) hg a5
 exact k5
theorem put7 {w : World} {g : Nat} {T : TypeId} {c0 c1 c2 c3 c4 c5 c6 a0 a1 a2 a3 a4 a5 a6 : Value} (h : Blk w g T #[c0, c1, c2, c3, c4, c5, c6]) : Blk (((((((w.setCell ⟨g, 0, none⟩ a0).setCell ⟨g, 1, none⟩ a1).setCell ⟨g, 2, none⟩ a2).setCell ⟨g, 3, none⟩ a3).setCell ⟨g, 4, none⟩ a4).setCell ⟨g, 5, none⟩ a5).setCell ⟨g, 6, none⟩ a6) g T #[a0, a1, a2, a3, a4, a5, a6] := by
 have k0 : Blk (w.setCell ⟨g, 0, none⟩ a0) g T #[a0, c1, c2, c3, c4, c5, c6] := h.set_ 0 a0
 have k1 : Blk ((w.setCell ⟨g, 0, none⟩ a0).setCell ⟨g, 1, none⟩ a1) g T #[a0, a1, c2, c3, c4, c5, c6] := k0.set_ 1 a1
 have k2 : Blk (((w.setCell ⟨g, 0, none⟩ a0).setCell ⟨g, 1, none⟩ a1).setCell ⟨g, 2, none⟩ a2) g T #[a0, a1, a2, c3, c4, c5, c6] := k1.set_ 2 a2
 have k3 : Blk ((((w.setCell ⟨g, 0, none⟩ a0).setCell ⟨g, 1, none⟩ a1).setCell ⟨g, 2, none⟩ a2).setCell ⟨g, 3, none⟩ a3) g T #[a0, a1, a2, a3, c4, c5, c6] := k2.set_ 3 a3
 have k4 : Blk (((((w.setCell ⟨g, 0, none⟩ a0).setCell ⟨g, 1, none⟩ a1).setCell ⟨g, 2, none⟩ a2).setCell ⟨g, 3, none⟩ a3).setCell ⟨g, 4, none⟩ a4) g T #[a0, a1, a2, a3, a4, c5, c6] := k3.set_ 4 a4
 have k5 : Blk ((((((w.setCell ⟨g, 0, none⟩ a0).setCell ⟨g, 1, none⟩ a1).setCell ⟨g, 2, none⟩ a2).setCell ⟨g, 3, none⟩ a3).setCell ⟨g, 4, none⟩ a4).setCell ⟨g, 5, none⟩ a5) g T #[a0, a1, a2, a3, a4, a5, c6] := k4.set_ 5 a5
 have k6 : Blk (((((((w.setCell ⟨g, 0, none⟩ a0).setCell ⟨g, 1, none⟩ a1).setCell ⟨g, 2, none⟩ a2).setCell ⟨g, 3, none⟩ a3).setCell ⟨g, 4, none⟩ a4).setCell ⟨g, 5, none⟩ a5).setCell ⟨g, 6, none⟩ a6) g T #[a0, a1, a2, a3, a4, a5, a6] := k5.set_ 6 a6
 exact k6
theorem keep7 {w : World} {g : Nat} {T : TypeId} {cs : Array Value} {a0 a1 a2 a3 a4 a5 a6 : Value} (h : Blk w g T cs) : KeepW T w (((((((w.setCell ⟨g, 0, none⟩ a0).setCell ⟨g, 1, none⟩ a1).setCell ⟨g, 2, none⟩ a2).setCell ⟨g, 3, none⟩ a3).setCell ⟨g, 4, none⟩ a4).setCell ⟨g, 5, none⟩ a5).setCell ⟨g, 6, none⟩ a6) := by
 have b0 : Blk (w.setCell ⟨g, 0, none⟩ a0) g T _ := h.set_ 0 a0
 have k0 : KeepW T w (w.setCell ⟨g, 0, none⟩ a0) := KeepW.set (KeepW.refl T w) h 0 a0
 have b1 : Blk ((w.setCell ⟨g, 0, none⟩ a0).setCell ⟨g, 1, none⟩ a1) g T _ := b0.set_ 1 a1
 have k1 : KeepW T w ((w.setCell ⟨g, 0, none⟩ a0).setCell ⟨g, 1, none⟩ a1) := KeepW.set k0 b0 1 a1
 have b2 : Blk (((w.setCell ⟨g, 0, none⟩ a0).setCell ⟨g, 1, none⟩ a1).setCell ⟨g, 2, none⟩ a2) g T _ := b1.set_ 2 a2
 have k2 : KeepW T w (((w.setCell ⟨g, 0, none⟩ a0).setCell ⟨g, 1, none⟩ a1).setCell ⟨g, 2, none⟩ a2) := KeepW.set k1 b1 2 a2
 have b3 : Blk ((((w.setCell ⟨g, 0, none⟩ a0).setCell ⟨g, 1, none⟩ a1).setCell ⟨g, 2, none⟩ a2).setCell ⟨g, 3, none⟩ a3) g T _ := b2.set_ 3 a3
 have k3 : KeepW T w ((((w.setCell ⟨g, 0, none⟩ a0).setCell ⟨g, 1, none⟩ a1).setCell ⟨g, 2, none⟩ a2).setCell ⟨g, 3, none⟩ a3) := KeepW.set k2 b2 3 a3
 have b4 : Blk (((((w.setCell ⟨g, 0, none⟩ a0).setCell ⟨g, 1, none⟩ a1).setCell ⟨g, 2, none⟩ a2).setCell ⟨g, 3, none⟩ a3).setCell ⟨g, 4, none⟩ a4) g T _ := b3.set_ 4 a4
 have k4 : KeepW T w (((((w.setCell ⟨g, 0, none⟩ a0).setCell ⟨g, 1, none⟩ a1).setCell ⟨g, 2, none⟩ a2).setCell ⟨g, 3, none⟩ a3).setCell ⟨g, 4, none⟩ a4) := KeepW.set k3 b3 4 a4
 have b5 : Blk ((((((w.setCell ⟨g, 0, none⟩ a0).setCell ⟨g, 1, none⟩ a1).setCell ⟨g, 2, none⟩ a2).setCell ⟨g, 3, none⟩ a3).setCell ⟨g, 4, none⟩ a4).setCell ⟨g, 5, none⟩ a5) g T _ := b4.set_ 5 a5
 have k5 : KeepW T w ((((((w.setCell ⟨g, 0, none⟩ a0).setCell ⟨g, 1, none⟩ a1).setCell ⟨g, 2, none⟩ a2).setCell ⟨g, 3, none⟩ a3).setCell ⟨g, 4, none⟩ a4).setCell ⟨g, 5, none⟩ a5) := KeepW.set k4 b4 5 a5
 have b6 : Blk (((((((w.setCell ⟨g, 0, none⟩ a0).setCell ⟨g, 1, none⟩ a1).setCell ⟨g, 2, none⟩ a2).setCell ⟨g, 3, none⟩ a3).setCell ⟨g, 4, none⟩ a4).setCell ⟨g, 5, none⟩ a5).setCell ⟨g, 6, none⟩ a6) g T _ := b5.set_ 6 a6
 have k6 : KeepW T w (((((((w.setCell ⟨g, 0, none⟩ a0).setCell ⟨g, 1, none⟩ a1).setCell ⟨g, 2, none⟩ a2).setCell ⟨g, 3, none⟩ a3).setCell ⟨g, 4, none⟩ a4).setCell ⟨g, 5, none⟩ a5).setCell ⟨g, 6, none⟩ a6) := KeepW.set k5 b5 6 a6
 exact k6
theorem bel7 {w0 w : World} {g B : Nat} {a0 a1 a2 a3 a4 a5 a6 : Value} (h : Below B w0 w) (hg : B ≤ g) : Below B w0 (((((((w.setCell ⟨g, 0, none⟩ a0).setCell ⟨g, 1, none⟩ a1).setCell ⟨g, 2, none⟩ a2).setCell ⟨g, 3, none⟩ a3).setCell ⟨g, 4, none⟩ a4).setCell ⟨g, 5, none⟩ a5).setCell ⟨g, 6, none⟩ a6) := by
 have k0 : Below B w0 (w.setCell ⟨g, 0, none⟩ a0) := h.setCell (p := ⟨g, 0, none⟩) hg a0
 have k1 : Below B w0 ((w.setCell ⟨g, 0, none⟩ a0).setCell ⟨g, 1, none⟩ a1) := k0.setCell (p := ⟨g, 1, none⟩) hg a1
 have k2 : Below B w0 (((w.setCell ⟨g, 0, none⟩ a0).setCell ⟨g, 1, none⟩ a1).setCell ⟨g, 2, none⟩ a2) := k1.setCell (p := ⟨g, 2, none⟩) hg a2
 have k3 : Below B w0 ((((w.setCell ⟨g, 0, none⟩ a0).setCell ⟨g, 1, none⟩ a1).setCell ⟨g, 2, none⟩ a2).setCell ⟨g, 3, none⟩ a3) := k2.setCell (p := ⟨g, 3, none⟩) hg a3
 have k4 : Below B w0 (((((w.setCell ⟨g, 0, none⟩ a0).setCell ⟨g, 1, none⟩ a1).setCell ⟨g, 2, none⟩ a2).setCell ⟨g, 3, none⟩ a3).setCell ⟨g, 4, none⟩ a4) := k3.setCell (p := ⟨g, 4, none⟩) hg a4
 have k5 : Below B w0 ((((((w.setCell ⟨g, 0, none⟩ a0).setCell ⟨g, 1, none⟩ a1).setCell ⟨g, 2, none⟩ a2).setCell ⟨g, 3, none⟩ a3).setCell ⟨g, 4, none⟩ a4).setCell ⟨g, 5, none⟩ a5) := k4.setCell (p := ⟨g, 5, none⟩) hg a5
 have k6 : Below B w0 (((((((w.setCell ⟨g, 0, none⟩ a0).setCell ⟨g, 1, none⟩ a1).setCell ⟨g, 2, none⟩ a2).setCell ⟨g, 3, none⟩ a3).setCell ⟨g, 4, none⟩ a4).setCell ⟨g, 5, none⟩ a5).setCell ⟨g, 6, none⟩ a6) := k5.setCell (p := ⟨g, 6, none⟩) hg a6
 exact k6
end Go.Proofs.Ytaghjaiaoajpiaa
