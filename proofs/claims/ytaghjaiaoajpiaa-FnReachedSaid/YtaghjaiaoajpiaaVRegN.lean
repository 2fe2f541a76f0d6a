/- As RegM, where what an operation has left need be kept only as long as it is asked for. -/
import Derived.Test.YtaghjaiaoajpiaaVM3
namespace Go.Proofs.Ytaghjaiaoajpiaa
open Go.RowKit
set_option linter.unusedVariables false
set_option linter.unusedSimpArgs false
/-- k waits for j -/
def waits (ops : Array Oper) (k j : Nat) : Bool := match ops[k]? with | none => false | some o => o.after.any fun e => Region.binds .any e && e.on == j
/-- none but these write the slot -/
def writesOnly (ops : Array Oper) (d : Nat) (js : List Nat) : Bool := (List.range ops.size).all fun j => match ops[j]? with | none => true | some o => js.contains j || (match o.dst with | none => true | some x => x != d)
theorem writesOnly_mem {ops : Array Oper} {d : Nat} {js : List Nat} (h : writesOnly ops d js = true) {j : Nat} {o : Oper} (ho : ops[j]? = some o) (hd : o.dst = some d) : j ∈ js := by
 have hi : j < ops.size := (Array.getElem?_eq_some_iff.1 ho).1
 have h1 := List.all_eq_true.1 h j (List.mem_range.2 hi)
 simp only [ho, hd, bne_self_eq_false, Bool.or_false] at h1
 simpa using h1
/-- an edge that is more than a phase -/
def np (e : Ground) : Bool := match e with | .phase => false | _ => true
/-- k asks for what j has left -/
def asks (ops : Array Oper) (k j : Nat) : Bool := match ops[k]? with | none => false | some o => o.after.any fun e => Region.binds .any e && e.on == j && np e.ground
/-- k waits for j, through others -/
def waitsN (ops : Array Oper) : Nat → Nat → Nat → Bool
 | 0, k, j => waits ops k j
 | n + 1, k, j => waits ops k j || (List.range ops.size).any fun m => waits ops k m && waitsN ops n m j
theorem waits_lst {ops : Array Oper} {listed : Array Bool} (hcl : closed ops listed) {k j : Nat} (hk : lst listed k) (h : waits ops k j = true) : lst listed j := by
 unfold waits at h
 split at h
 · cases h
 · rename_i o ho
   obtain ⟨m, hm, hb⟩ := Array.any_eq_true.1 h
   simp only [Bool.and_eq_true, beq_iff_eq] at hb
   rw [← hb.2]
   exact hcl k o ho hk _ (Array.getElem_mem hm) hb.1
theorem waitsN_lst {ops : Array Oper} {listed : Array Bool} (hcl : closed ops listed) {j : Nat} : ∀ (n k : Nat), lst listed k → waitsN ops n k j = true → lst listed j := by
 intro n
 induction n with
 | zero => intro k hk h; exact waits_lst hcl hk h
 | succ n ih =>
   intro k hk h
   rw [waitsN, Bool.or_eq_true] at h
   rcases h with h | h
   · exact waits_lst hcl hk h
   · obtain ⟨m, _, hm⟩ := List.any_eq_true.1 h
     rw [Bool.and_eq_true] at hm
     exact ih m (waits_lst hcl hk hm.1) hm.2
/-- what j has left is asked for behind i -/
def needed (ops : Array Oper) (fin : Nat → Bool) (j i : Nat) : Bool := fin j || (List.range ops.size).any fun k => k != i && asks ops k j && !waitsN ops 9 i k
/-- what i need not keep: what waits for it, and what nobody asks for behind it -/
def dpokN (ops : Array Oper) (fin : Nat → Bool) (dp : Nat → Nat → Bool) : Bool := (List.range ops.size).all fun j => (List.range ops.size).all fun i => !dp j i || waitsN ops 9 j i || !needed ops fin j i
def alive (ops : Array Oper) (fin : Nat → Bool) (listed : Array Bool) (j : Nat) : Prop := fin j = true ∨ ∃ k, k < ops.size ∧ ¬ lst listed k ∧ asks ops k j = true
theorem wp_region_n {P : Program} {id : Nat} {ops : Array Oper} {Q : Exit → Act → World → Prop} {a : Act} {w : World} (hm : P.follows .mixedOrders = true) (hlat : laterB ops = true) (D : List Nat) (uses : Nat → List Nat) (hu : uok ops D uses = true) (hnd : D.Nodup) (mx : Nat) (hD : (D.all fun d => decide (d < mx)) = true) (hmx : mx ≤ a.tmps.size) (E : Act → Prop) (hE : E a) (dp : Nat → Nat → Bool) (fin : Nat → Bool) (hdp : dpokN ops fin dp = true)
 (I : Nat → (Nat → Prop) → World → Prop) (R : Nat → World → World → Prop) (G : Nat → (Nat → Value) → World → Prop) (hI0 : I 0 (fun _ => False) w.drew)
 (hR : ∀ i j vs us w w', i ≠ j → dp j i = false → G j vs w → (∀ d ∈ uses j, us d = vs d) → R i w w' → G j us w')
 (hstep : ∀ a0, E a0 → ∀ i o, ops[i]? = some o → ∀ (Qx : Exit → Act → World → Prop) vs wx b K k L, I k L wx → k < ops.size → ¬ L i → (∀ j, L j → j < ops.size) → (∀ j oj jj, ops[j]? = some oj → L j → (oj.after.any fun e => Region.binds .any e && e.on == jj) = true → L jj) → (∀ j, (o.after.any fun e => Region.binds .any e && e.on == j && np e.ground) = true → L j ∧ G j vs wx) →
  (∀ t, t ∉ D → b.tmps[t]?.getD undef = a0.eval (.tmp t)) → (∀ d ∈ D, b.tmps[d]?.getD undef = vs d) → (∀ d ∈ D, ∀ js, writesOnly ops d js = true → (∀ j ∈ js, ¬ L j) → b.tmps[d]?.getD undef = a0.eval (.tmp d)) →
  (∀ v w', I (k + 1) (fun j => j = i ∨ L j) w' → R i wx w' → G i (match o.dst with | some d => upd vs d v | none => vs) w' → K (b.put o.dst v) w') →
  if Region.wanted o (yielded ops b.tmps) = true then Oper.wp P o b wx K Qx else K (b.put o.dst undef) wx)
 (hend : ∀ vs wx k L, I k L wx → k ≤ ops.size → (∀ j, L j → j < ops.size) → (∀ j, j < ops.size → L j ∧ (fin j = true → G j vs wx)) → Q .normal (sl a vs D) wx) : (Code.region id ops true).wp P Q a w := by
 have hsz : ∀ d ∈ D, d < a.tmps.size := fun d hd => Nat.lt_of_lt_of_le (by simpa using List.all_eq_true.1 hD d hd) hmx
 refine wp_region_any hm ?_
 refine wpAny_inv (I := fun listed a' w' => listed.size = ops.size ∧ closed ops listed ∧ ∃ vs, a' = sl a vs D ∧ I (ops.size - unl listed) (lst listed) w' ∧ (∀ j, lst listed j → alive ops fin listed j → G j vs w') ∧ ∀ d ∈ D, (∀ j oj, ops[j]? = some oj → lst listed j → oj.dst ≠ some d) → vs d = a.eval (.tmp d)) ?_ ?_ _ _ _ _ ⟨by simp, ?_, _, (sl_self a D hsz).symm, ?_, ?_⟩ ?_
 · rintro listed _ w' i ⟨hls, hcl, vs, rfl, hI, hG, hV⟩ hi
   obtain ⟨h1, o, ho, h2⟩ := mem_ready.1 hi
   obtain ⟨h3, h4⟩ := lst_no h1
   have hn := unl_set h1
   have hle : unl listed ≤ ops.size := by rw [← hls]; unfold unl; have := List.count_le_length (a := false) (l := listed.toList); simpa using this
   refine wpOp_of ho fun K hK => ?_
   have hup : 0 < unl listed := by omega
   refine hstep a hE i o ho Q vs w' (sl a vs D) K _ (lst listed) hI (by omega) h3 (fun j hj => ?lt) (fun j oj jj hoj hj hd => ?cl) (fun j hj => ?dep) (fun t ht => (Array.getD_eq_getD_getElem? ..).symm.trans (sl_out a vs D ht)) (fun d hd => (Array.getD_eq_getD_getElem? ..).symm.trans (sl_at a vs D hnd hd (hsz d hd))) (fun d hd js hw hjs => ((Array.getD_eq_getD_getElem? ..).symm.trans (sl_at a vs D hnd hd (hsz d hd))).trans (hV d hd fun j oj hoj hj hdst => hjs j (writesOnly_mem hw hoj hdst) hj)) ?_
   case dep =>
    obtain ⟨k, hk, hb⟩ := Array.any_eq_true.1 hj
    simp only [Bool.and_eq_true, beq_iff_eq] at hb
    rw [← hb.1.2]
    have hl := h2 _ (Array.getElem_mem hk) hb.1.1
    refine ⟨hl, hG _ hl (.inr ⟨i, (Array.getElem?_eq_some_iff.1 ho).1, h3, ?_⟩)⟩
    unfold asks
    rw [ho]
    exact Array.any_eq_true.2 ⟨k, hk, by simp [hb.1.1, hb.2]⟩
   case lt => exact lst_lt hls hj
   case cl =>
    obtain ⟨k, hk, hb⟩ := Array.any_eq_true.1 hd
    simp only [Bool.and_eq_true, beq_iff_eq] at hb
    rw [← hb.2]
    exact hcl j oj hoj hj _ (Array.getElem_mem hk) hb.1
   intro v w'' hI' hR' hG'
   have h2' := h2
   have key : ∀ us, (∀ d, (o.dst ≠ some d) → us d = vs d) → G i us w'' → ∀ j, lst (listed.setIfInBounds i true) j → alive ops fin (listed.setIfInBounds i true) j → G j us w'' := by
    intro us hus hgi j hj hal
    by_cases e : j = i
    · subst e; exact hgi
    · have hj' := (lst_set.1 hj).resolve_left (fun h => e h.1)
      have hag : ∀ d ∈ uses j, us d = vs d := by
       intro d hd
       refine hus d fun hdst => ?_
       obtain ⟨_, hall⟩ := uok_dst hu ho hdst
       have hjs : j < ops.size := by
        rcases Nat.lt_or_ge j listed.size with h | h
        · omega
        · unfold lst at hj'
          simp [Array.getD, Nat.not_lt.2 h] at hj'
       obtain ⟨e2, he2, hb2, hon⟩ := hall j ops[j] (by simp [hjs]) (Ne.symm e) hd
       have := hcl j ops[j] (by simp [hjs]) hj' e2 he2 hb2
       rw [hon] at this
       exact h3 this
      have hold : ∀ k, ¬ lst (listed.setIfInBounds i true) k → k ≠ i ∧ ¬ lst listed k := fun k hk => ⟨fun e2 => hk (lst_set.2 (.inl ⟨e2, h4⟩)), fun e2 => hk (lst_set.2 (.inr e2))⟩
      have hal0 : alive ops fin listed j := hal.imp (fun h => h) (fun ⟨k, h1, h2, h3⟩ => ⟨k, h1, (hold k h2).2, h3⟩)
      refine hR i j vs us _ _ (Ne.symm e) ?_ (hG j hj' hal0) hag hR'
      cases hdj : dp j i with
      | false => rfl
      | true =>
        exfalso
        have hjs : j < ops.size := by
         rcases Nat.lt_or_ge j listed.size with h | h
         · omega
         · unfold lst at hj'
           simp [Array.getD, Nat.not_lt.2 h] at hj'
        have h5 := List.all_eq_true.1 (List.all_eq_true.1 hdp j (List.mem_range.2 hjs)) i (List.mem_range.2 (by omega))
        rw [hdj, Bool.not_true, Bool.false_or, Bool.or_eq_true] at h5
        rcases h5 with h5 | h5
        · exact h3 (waitsN_lst hcl 9 j hj' h5)
        · have hnn : needed ops fin j i = true := by
           unfold needed
           rcases hal with hf | ⟨k, hk, hnk, hw⟩
           · rw [hf]; rfl
           · obtain ⟨hki, hnk⟩ := hold k hnk
             have hik : waitsN ops 9 i k = false := by
              cases hwk : waitsN ops 9 i k with
              | false => rfl
              | true =>
                exfalso
                have h2w : ∀ k, waits ops i k = true → lst listed k := fun k hwk => by
                 unfold waits at hwk
                 rw [ho] at hwk
                 obtain ⟨k2, hk2, hb⟩ := Array.any_eq_true.1 hwk
                 simp only [Bool.and_eq_true, beq_iff_eq] at hb
                 have hl := h2 _ (Array.getElem_mem hk2) hb.1
                 rw [hb.2] at hl
                 exact hl
                rw [waitsN, Bool.or_eq_true] at hwk
                rcases hwk with hwk | hwk
                · exact hnk (h2w k hwk)
                · obtain ⟨m, _, hm⟩ := List.any_eq_true.1 hwk
                  rw [Bool.and_eq_true] at hm
                  exact hnk (waitsN_lst hcl 8 m (h2w m hm.1) hm.2)
             rw [Bool.or_eq_true]
             exact .inr (List.any_eq_true.2 ⟨k, List.mem_range.2 hk, by simp [hki, hw, hik]⟩)
          rw [hnn] at h5
          cases h5
   have hclosed : closed ops (listed.setIfInBounds i true) := by
    intro j oj hoj hj e he hb
    rw [lst_set] at hj ⊢
    rcases hj with ⟨rfl, _⟩ | hj
    · rw [ho] at hoj
      injection hoj with hoj
      subst hoj
      exact .inr (h2 e he hb)
    · exact .inr (hcl j oj hoj hj e he hb)
   have hcnt : ops.size - unl (listed.setIfInBounds i true) = ops.size - unl listed + 1 := by omega
   have hset : lst (listed.setIfInBounds i true) = fun j => j = i ∨ lst listed j := by
    funext j
    exact propext ⟨fun h => (lst_set.1 h).imp And.left (fun x => x), fun h => lst_set.2 (h.imp (fun e => ⟨e, h4⟩) (fun x => x))⟩
   rcases hd : o.dst with _ | d
   · rw [hd] at hG'
     refine hK _ _ ⟨by simpa using hls, hclosed, vs, ?_, by rw [hcnt, hset]; exact hI', key vs (fun _ _ => rfl) hG', fun d hd h => hV d hd fun j oj hoj hj => h j oj hoj (lst_set.2 (.inr hj))⟩
     rfl
   · rw [hd] at hG'
     refine hK _ _ ⟨by simpa using hls, hclosed, upd vs d v, sl_put a vs v D hnd (uok_dst hu ho hd).1, by rw [hcnt, hset]; exact hI', key _ (fun x hx => upd_ne _ _ (fun e => hx (by rw [hd, e]))) hG', fun x hx h => ?_⟩
     have hne : x ≠ d := fun e => h i o ho (lst_set.2 (.inl ⟨rfl, h4⟩)) (by rw [hd, e])
     exact (upd_ne _ _ hne).trans (hV x hx fun j oj hoj hj => h j oj hoj (lst_set.2 (.inr hj)))
 · rintro listed _ w' ⟨hls, _, vs, rfl, hI, hG, _⟩ hr
   have hall := fun j hj => all_listedB hlat hls hr j hj
   exact hend vs w' _ _ hI (Nat.sub_le _ _) (fun j hj => lst_lt hls hj) fun j hj => ⟨hall j hj, fun hf => hG j (hall j hj) (.inl hf)⟩
 · intro j o _ hj
   exact absurd hj lst_rep
 · rw [unl_rep, Nat.sub_self, show lst (Array.replicate ops.size false) = (fun _ => False) from funext fun j => propext ⟨fun h => lst_rep h, False.elim⟩]; exact hI0
 · refine ⟨fun j hj => absurd hj lst_rep, fun _ _ _ => rfl⟩
 · simp [unl]
theorem blk_sz_ne {w : World} {g b : Nat} {t t2 : TypeId} {cs : Array Value} (h : Blk w g t cs) (h2 : Blk w b t2 #[]) (hs : cs.size ≠ 0) : some b ≠ some g := by
 intro e
 injection e with e
 subst e
 unfold Blk at h h2
 rw [h] at h2
 injection h2 with h2
 injection h2 with h2
 exact hs (by rw [h2]; rfl)
end Go.Proofs.Ytaghjaiaoajpiaa
