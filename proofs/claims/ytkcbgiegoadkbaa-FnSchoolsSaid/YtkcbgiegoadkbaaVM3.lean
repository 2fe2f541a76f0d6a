/- stepped: no kind of step, or a wait that is none. -/
import Derived.Test.YtkcbgiegoadkbaaVScEc
import Derived.Test.YtkcbgiegoadkbaaVM2
import Derived.Test.YtkcbgiegoadkbaaVM1
import Derived.Test.YtkcbgiegoadkbaaVRegL
namespace Go.Proofs.Ytkcbgiegoadkbaa
open Go.RowKit
set_option linter.unusedVariables false
set_option linter.unusedSimpArgs false
set_option maxRecDepth 100000 in
set_option maxHeartbeats 4000000 in
theorem stepped_else (day pa le k id v : Int) (A : Option Addr) (n c : Nat) (l : List R5) (w : World) (hn : n ≤ 8) (hA : SlOk A n c) (h : Reads w w.heap.size 5 A n (rowsV l)) (hk : ¬ (k = 1 ∨ k = 2 ∨ k = 3 ∨ k = 4 ∨ k = 5 ∨ k = 6)) :
 Calls Try.prog 20 #[schV day A n c pa le, .agg #[.int .i64 k, .int .i64 id, .int .i64 v]] w (RetSch none w) := by
 have hk1 : (k == 1) = false := by rw [beq_eq_false_iff_ne]; omega
 have hk2 : (k == 2) = false := by rw [beq_eq_false_iff_ne]; omega
 have hk3 : (k == 3) = false := by rw [beq_eq_false_iff_ne]; omega
 have hk4 : (k == 4) = false := by rw [beq_eq_false_iff_ne]; omega
 have hk5 : (k == 5) = false := by rw [beq_eq_false_iff_ne]; omega
 have hk6 : (k == 6) = false := by rw [beq_eq_false_iff_ne]; omega
 have H := Lib.hid h
 have HL := Lib.hid (rows_len h)
 have HA := Lib.hid (fun w h => own_any day pa le A n c l w (by omega) hA h)
 clear h
 go_enter Try.func20, Try.ntmps20
 go_wp2_with fail
 refine (HA.out _ ((H.out.ext (ext_alloc (ext_alloc (ext_alloc (ext_refl _) _) _) _) (Nat.le_refl _)).more (by simp; omega))).mono ?_
 rintro e w1 ⟨A1, c1, rfl, hown, hb1⟩
 have z0 : w.heap.size + 1 + 1 < w1.heap.size := by (have := hb1.size; simp at this; omega)
 have z1 : w.heap.size + 1 < w1.heap.size := by omega
 have z2 : w.heap.size < w1.heap.size := by omega
 have BX : Hid (Blk w1 w.heap.size 26 #[.int .i64 day, .slice A n c, .int .i64 pa, .int .i64 le]) := Lib.hid (((Blk.new w _ _).ext (ext_alloc (ext_alloc (ext_refl _) _) _)).ext hb1)
 have BY : Hid (Blk w1 (w.heap.size + 1) 28 #[.int .i64 k, .int .i64 id, .int .i64 v]) := Lib.hid (by
  have := ((Blk.new (w.alloc (.cells #[.int .i64 day, .slice A n c, .int .i64 pa, .int .i64 le] 26)) #[.int .i64 k, .int .i64 id, .int .i64 v] 28).ext (ext_alloc (ext_refl _) (.cells #[.int .i64 0, .slice none 0 0, .int .i64 0, .int .i64 0] 26))).ext hb1
  simpa using this)
 have BR : Hid (Blk w1 (w.heap.size + 1 + 1) 26 #[.int .i64 0, .slice none 0 0, .int .i64 0, .int .i64 0]) := Lib.hid (by
  have := (Blk.new ((w.alloc (.cells #[.int .i64 day, .slice A n c, .int .i64 pa, .int .i64 le] 26)).alloc (.cells #[.int .i64 k, .int .i64 id, .int .i64 v] 28)) #[.int .i64 0, .slice none 0 0, .int .i64 0, .int .i64 0] 26).ext hb1
  simpa using this)
 have hbw := Lib.hid (ext_trans (ext_alloc (ext_alloc (ext_alloc (ext_refl w) _) _) _) hb1)
 have HO : Hid (w1.ownsRow w.heap.size 55 5 (.slice A1 n c1) n (rowsV l)) := Lib.hid (own_base hown (by simp; omega))
 clear hb1 hown
 obtain ⟨x0, x1, x2, x3⟩ := BX.out.q4
 obtain ⟨fx0, fx1, fx2, fx3⟩ := BX.out.z4
 obtain ⟨y0, y1, y2⟩ := BY.out.q3
 obtain ⟨fy0, fy1, fy2⟩ := BY.out.z3
 obtain ⟨r0, r1, r2, r3⟩ := BR.out.q4
 obtain ⟨fr0, fr1, fr2, fr3⟩ := BR.out.z4
 go_wp2
 refine bodyPost_ret (v := .tuple #[schV 0 none 0 0 0 0, .bool false]) (by simp [results, Try.results20, go_sem, *]) rfl ⟨rfl, (by repeat (first | exact ext_refl _ | exact hbw.out | exact (hbw).out | refine ext_alloc ?_ _ | refine ext_set ?_ (by simp <;> omega) _))⟩
set_option maxRecDepth 100000 in
set_option maxHeartbeats 4000000 in
theorem stepped_wait_no (day pa le id v : Int) (A : Option Addr) (n c : Nat) (l : List R5) (w : World) (hn : n ≤ 8) (hA : SlOk A n c) (h : Reads w w.heap.size 5 A n (rowsV l)) (hk : id ≠ 0 ∨ v < 1) :
 Calls Try.prog 20 #[schV day A n c pa le, .agg #[.int .i64 1, .int .i64 id, .int .i64 v]] w (RetSch none w) := by
 rcases Classical.em (id = 0) with hi | hi
 · have hv : v < 1 := by rcases hk with h | h; exact absurd hi h; exact h
   have hv' : decide (v < 1) = true := by simpa using hv
   subst hi
   clear hk
   have H := Lib.hid h
   have HL := Lib.hid (rows_len h)
   have HA := Lib.hid (fun w h => own_any day pa le A n c l w (by omega) hA h)
   clear h
   go_enter Try.func20, Try.ntmps20
   go_wp2_with fail
   refine (HA.out _ ((H.out.ext (ext_alloc (ext_alloc (ext_alloc (ext_refl _) _) _) _) (Nat.le_refl _)).more (by simp; omega))).mono ?_
   rintro e w1 ⟨A1, c1, rfl, hown, hb1⟩
   have z0 : w.heap.size + 1 + 1 < w1.heap.size := by (have := hb1.size; simp at this; omega)
   have z1 : w.heap.size + 1 < w1.heap.size := by omega
   have z2 : w.heap.size < w1.heap.size := by omega
   have BX : Hid (Blk w1 w.heap.size 26 #[.int .i64 day, .slice A n c, .int .i64 pa, .int .i64 le]) := Lib.hid (((Blk.new w _ _).ext (ext_alloc (ext_alloc (ext_refl _) _) _)).ext hb1)
   have BY : Hid (Blk w1 (w.heap.size + 1) 28 #[.int .i64 1, .int .i64 0, .int .i64 v]) := Lib.hid (by
    have := ((Blk.new (w.alloc (.cells #[.int .i64 day, .slice A n c, .int .i64 pa, .int .i64 le] 26)) #[.int .i64 1, .int .i64 0, .int .i64 v] 28).ext (ext_alloc (ext_refl _) (.cells #[.int .i64 0, .slice none 0 0, .int .i64 0, .int .i64 0] 26))).ext hb1
    simpa using this)
   have BR : Hid (Blk w1 (w.heap.size + 1 + 1) 26 #[.int .i64 0, .slice none 0 0, .int .i64 0, .int .i64 0]) := Lib.hid (by
    have := (Blk.new ((w.alloc (.cells #[.int .i64 day, .slice A n c, .int .i64 pa, .int .i64 le] 26)).alloc (.cells #[.int .i64 1, .int .i64 0, .int .i64 v] 28)) #[.int .i64 0, .slice none 0 0, .int .i64 0, .int .i64 0] 26).ext hb1
    simpa using this)
   have hbw := Lib.hid (ext_trans (ext_alloc (ext_alloc (ext_alloc (ext_refl w) _) _) _) hb1)
   have HO : Hid (w1.ownsRow w.heap.size 55 5 (.slice A1 n c1) n (rowsV l)) := Lib.hid (own_base hown (by simp; omega))
   clear hb1 hown
   obtain ⟨x0, x1, x2, x3⟩ := BX.out.q4
   obtain ⟨fx0, fx1, fx2, fx3⟩ := BX.out.z4
   obtain ⟨y0, y1, y2⟩ := BY.out.q3
   obtain ⟨fy0, fy1, fy2⟩ := BY.out.z3
   obtain ⟨r0, r1, r2, r3⟩ := BR.out.q4
   obtain ⟨fr0, fr1, fr2, fr3⟩ := BR.out.z4
   go_wp2
   refine bodyPost_ret (v := .tuple #[schV 0 none 0 0 0 0, .bool false]) (by simp [results, Try.results20, go_sem, *]) rfl ⟨rfl, (by repeat (first | exact ext_refl _ | exact hbw.out | exact (hbw).out | refine ext_alloc ?_ _ | refine ext_set ?_ (by simp <;> omega) _))⟩
 · have hi' : (id != 0) = true := by simpa using hi
   clear hk hi
   have H := Lib.hid h
   have HL := Lib.hid (rows_len h)
   have HA := Lib.hid (fun w h => own_any day pa le A n c l w (by omega) hA h)
   clear h
   go_enter Try.func20, Try.ntmps20
   go_wp2_with fail
   refine (HA.out _ ((H.out.ext (ext_alloc (ext_alloc (ext_alloc (ext_refl _) _) _) _) (Nat.le_refl _)).more (by simp; omega))).mono ?_
   rintro e w1 ⟨A1, c1, rfl, hown, hb1⟩
   have z0 : w.heap.size + 1 + 1 < w1.heap.size := by (have := hb1.size; simp at this; omega)
   have z1 : w.heap.size + 1 < w1.heap.size := by omega
   have z2 : w.heap.size < w1.heap.size := by omega
   have BX : Hid (Blk w1 w.heap.size 26 #[.int .i64 day, .slice A n c, .int .i64 pa, .int .i64 le]) := Lib.hid (((Blk.new w _ _).ext (ext_alloc (ext_alloc (ext_refl _) _) _)).ext hb1)
   have BY : Hid (Blk w1 (w.heap.size + 1) 28 #[.int .i64 1, .int .i64 id, .int .i64 v]) := Lib.hid (by
    have := ((Blk.new (w.alloc (.cells #[.int .i64 day, .slice A n c, .int .i64 pa, .int .i64 le] 26)) #[.int .i64 1, .int .i64 id, .int .i64 v] 28).ext (ext_alloc (ext_refl _) (.cells #[.int .i64 0, .slice none 0 0, .int .i64 0, .int .i64 0] 26))).ext hb1
    simpa using this)
   have BR : Hid (Blk w1 (w.heap.size + 1 + 1) 26 #[.int .i64 0, .slice none 0 0, .int .i64 0, .int .i64 0]) := Lib.hid (by
    have := (Blk.new ((w.alloc (.cells #[.int .i64 day, .slice A n c, .int .i64 pa, .int .i64 le] 26)).alloc (.cells #[.int .i64 1, .int .i64 id, .int .i64 v] 28)) #[.int .i64 0, .slice none 0 0, .int .i64 0, .int .i64 0] 26).ext hb1
    simpa using this)
   have hbw := Lib.hid (ext_trans (ext_alloc (ext_alloc (ext_alloc (ext_refl w) _) _) _) hb1)
   have HO : Hid (w1.ownsRow w.heap.size 55 5 (.slice A1 n c1) n (rowsV l)) := Lib.hid (own_base hown (by simp; omega))
   clear hb1 hown
   obtain ⟨x0, x1, x2, x3⟩ := BX.out.q4
   obtain ⟨fx0, fx1, fx2, fx3⟩ := BX.out.z4
   obtain ⟨y0, y1, y2⟩ := BY.out.q3
   obtain ⟨fy0, fy1, fy2⟩ := BY.out.z3
   obtain ⟨r0, r1, r2, r3⟩ := BR.out.q4
   obtain ⟨fr0, fr1, fr2, fr3⟩ := BR.out.z4
   go_wp2
   refine bodyPost_ret (v := .tuple #[schV 0 none 0 0 0 0, .bool false]) (by simp [results, Try.results20, go_sem, *]) rfl ⟨rfl, (by repeat (first | exact ext_refl _ | exact hbw.out | exact (hbw).out | refine ext_alloc ?_ _ | refine ext_set ?_ (by simp <;> omega) _))⟩
end Go.Proofs.Ytkcbgiegoadkbaa
namespace Go.Proofs.Ytkcbgiegoadkbaa
open Go.RowKit
set_option linter.unusedVariables false
set_option linter.unusedSimpArgs false
theorem lst_lt {listed : Array Bool} {n j : Nat} (hs : listed.size = n) (h : lst listed j) : j < n := by
 rcases Nat.lt_or_ge j listed.size with h1 | h1
 · omega
 · unfold lst at h
   simp [Array.getD, Nat.not_lt.2 h1] at h
/-- dp only says what waits for what -/
def dpok (ops : Array Oper) (dp : Nat → Nat → Bool) : Bool := (List.range ops.size).all fun j => (List.range ops.size).all fun i => !dp j i || (match ops[j]? with | none => true | some oj => oj.after.any fun e => Region.binds .any e && e.on == i)
theorem wp_region_m {P : Program} {id : Nat} {ops : Array Oper} {Q : Exit → Act → World → Prop} {a : Act} {w : World} (hm : P.follows .mixedOrders = true) (hlat : laterB ops = true) (D : List Nat) (uses : Nat → List Nat) (hu : uok ops D uses = true) (hnd : D.Nodup) (mx : Nat) (hD : (D.all fun d => decide (d < mx)) = true) (hmx : mx ≤ a.tmps.size) (E : Act → Prop) (hE : E a) (dp : Nat → Nat → Bool) (hdp : dpok ops dp = true)
 (I : Nat → (Nat → Prop) → World → Prop) (R : Nat → World → World → Prop) (G : Nat → (Nat → Value) → World → Prop) (hI0 : I 0 (fun _ => False) w.drew)
 (hR : ∀ i j vs us w w', i ≠ j → dp j i = false → G j vs w → (∀ d ∈ uses j, us d = vs d) → R i w w' → G j us w')
 (hstep : ∀ a0, E a0 → ∀ i o, ops[i]? = some o → ∀ (Qx : Exit → Act → World → Prop) vs wx b K k L, I k L wx → k < ops.size → ¬ L i → (∀ j, L j → j < ops.size) → (∀ j oj jj, ops[j]? = some oj → L j → (oj.after.any fun e => Region.binds .any e && e.on == jj) = true → L jj) → (∀ j, (o.after.any fun e => Region.binds .any e && e.on == j) = true → L j ∧ G j vs wx) →
  (∀ t, t ∉ D → b.tmps[t]?.getD undef = a0.eval (.tmp t)) → (∀ d ∈ D, b.tmps[d]?.getD undef = vs d) →
  (∀ v w', I (k + 1) (fun j => j = i ∨ L j) w' → R i wx w' → G i (match o.dst with | some d => upd vs d v | none => vs) w' → K (b.put o.dst v) w') →
  if Region.wanted o (yielded ops b.tmps) = true then Oper.wp P o b wx K Qx else K (b.put o.dst undef) wx)
 (hend : ∀ vs wx k L, I k L wx → k ≤ ops.size → (∀ j, L j → j < ops.size) → (∀ j, j < ops.size → L j ∧ G j vs wx) → Q .normal (sl a vs D) wx) : (Code.region id ops true).wp P Q a w := by
 have hsz : ∀ d ∈ D, d < a.tmps.size := fun d hd => Nat.lt_of_lt_of_le (by simpa using List.all_eq_true.1 hD d hd) hmx
 refine wp_region_any hm ?_
 refine wpAny_inv (I := fun listed a' w' => listed.size = ops.size ∧ closed ops listed ∧ ∃ vs, a' = sl a vs D ∧ I (ops.size - unl listed) (lst listed) w' ∧ ∀ j, lst listed j → G j vs w') ?_ ?_ _ _ _ _ ⟨by simp, ?_, _, (sl_self a D hsz).symm, ?_, ?_⟩ ?_
 · rintro listed _ w' i ⟨hls, hcl, vs, rfl, hI, hG⟩ hi
   obtain ⟨h1, o, ho, h2⟩ := mem_ready.1 hi
   obtain ⟨h3, h4⟩ := lst_no h1
   have hn := unl_set h1
   have hle : unl listed ≤ ops.size := by rw [← hls]; unfold unl; have := List.count_le_length (a := false) (l := listed.toList); simpa using this
   refine wpOp_of ho fun K hK => ?_
   have hup : 0 < unl listed := by omega
   refine hstep a hE i o ho Q vs w' (sl a vs D) K _ (lst listed) hI (by omega) h3 (fun j hj => ?lt) (fun j oj jj hoj hj hd => ?cl) (fun j hj => ?dep) (fun t ht => (Array.getD_eq_getD_getElem? ..).symm.trans (sl_out a vs D ht)) (fun d hd => (Array.getD_eq_getD_getElem? ..).symm.trans (sl_at a vs D hnd hd (hsz d hd))) ?_
   case dep =>
    obtain ⟨k, hk, hb⟩ := Array.any_eq_true.1 hj
    simp only [Bool.and_eq_true, beq_iff_eq] at hb
    rw [← hb.2]
    have hl := h2 _ (Array.getElem_mem hk) hb.1
    exact ⟨hl, hG _ hl⟩
   case lt => exact lst_lt hls hj
   case cl =>
    obtain ⟨k, hk, hb⟩ := Array.any_eq_true.1 hd
    simp only [Bool.and_eq_true, beq_iff_eq] at hb
    rw [← hb.2]
    exact hcl j oj hoj hj _ (Array.getElem_mem hk) hb.1
   intro v w'' hI' hR' hG'
   have key : ∀ us, (∀ d, (o.dst ≠ some d) → us d = vs d) → G i us w'' → ∀ j, lst (listed.setIfInBounds i true) j → G j us w'' := by
    intro us hus hgi j hj
    by_cases e : j = i
    · subst e; exact hgi
    · have hj' := (lst_set.1 hj).resolve_left (fun h => e h.1)
      have hag : ∀ d ∈ uses j, us d = vs d := by
       intro d hd
       refine hus d fun hdst => ?_
       obtain ⟨_, hall⟩ := uok_dst hu ho hdst
       have hjs : j < ops.size := by
        rcases Nat.lt_or_ge j listed.size with h | h
        · omega
        · unfold lst at hj'
          simp [Array.getD, Nat.not_lt.2 h] at hj'
       obtain ⟨e2, he2, hb2, hon⟩ := hall j ops[j] (by simp [hjs]) (Ne.symm e) hd
       have := hcl j ops[j] (by simp [hjs]) hj' e2 he2 hb2
       rw [hon] at this
       exact h3 this
      refine hR i j vs us _ _ (Ne.symm e) ?_ (hG j hj') hag hR'
      cases hdj : dp j i with
      | false => rfl
      | true =>
        exfalso
        have hjs : j < ops.size := by
         rcases Nat.lt_or_ge j listed.size with h | h
         · omega
         · unfold lst at hj'
           simp [Array.getD, Nat.not_lt.2 h] at hj'
        have h5 := List.all_eq_true.1 (List.all_eq_true.1 hdp j (List.mem_range.2 hjs)) i (List.mem_range.2 (by omega))
        rw [hdj] at h5
        simp only [Array.getElem?_eq_getElem hjs, Bool.not_true, Bool.false_or] at h5
        obtain ⟨k, hk, hb⟩ := Array.any_eq_true.1 h5
        simp only [Bool.and_eq_true, beq_iff_eq] at hb
        have h6 := hcl j ops[j] (by simp [hjs]) hj' _ (Array.getElem_mem hk) hb.1
        rw [hb.2] at h6
        exact h3 h6
   have hclosed : closed ops (listed.setIfInBounds i true) := by
    intro j oj hoj hj e he hb
    rw [lst_set] at hj ⊢
    rcases hj with ⟨rfl, _⟩ | hj
    · rw [ho] at hoj
      injection hoj with hoj
      subst hoj
      exact .inr (h2 e he hb)
    · exact .inr (hcl j oj hoj hj e he hb)
   have hcnt : ops.size - unl (listed.setIfInBounds i true) = ops.size - unl listed + 1 := by omega
   have hset : lst (listed.setIfInBounds i true) = fun j => j = i ∨ lst listed j := by
    funext j
    exact propext ⟨fun h => (lst_set.1 h).imp And.left (fun x => x), fun h => lst_set.2 (h.imp (fun e => ⟨e, h4⟩) (fun x => x))⟩
   rcases hd : o.dst with _ | d
   · rw [hd] at hG'
     refine hK _ _ ⟨by simpa using hls, hclosed, vs, ?_, by rw [hcnt, hset]; exact hI', key vs (fun _ _ => rfl) hG'⟩
     rfl
   · rw [hd] at hG'
     refine hK _ _ ⟨by simpa using hls, hclosed, upd vs d v, sl_put a vs v D hnd (uok_dst hu ho hd).1, by rw [hcnt, hset]; exact hI', key _ (fun x hx => upd_ne _ _ (fun e => hx (by rw [hd, e]))) hG'⟩
 · rintro listed _ w' ⟨hls, _, vs, rfl, hI, hG⟩ hr
   have hall := fun j hj => all_listedB hlat hls hr j hj
   exact hend vs w' _ _ hI (Nat.sub_le _ _) (fun j hj => lst_lt hls hj) fun j hj => ⟨hall j hj, hG j (hall j hj)⟩
 · intro j o _ hj
   exact absurd hj lst_rep
 · rw [unl_rep, Nat.sub_self, show lst (Array.replicate ops.size false) = (fun _ => False) from funext fun j => propext ⟨fun h => lst_rep h, False.elim⟩]; exact hI0
 · intro j hj
   exact absurd hj lst_rep
 · simp [unl]
/-- a cursor on block g, at a or a little on; before p1 is listed only it is written, before p2 is listed B holds -/
def ICur (C g a : Nat) (w W0 : World) (p1 p2 : Nat) (B : World → Prop) (k : Nat) (L : Nat → Prop) (wx : World) : Prop :=
 ∃ a', a' ≤ a + C * k ∧ CurAt wx g a' ∧ Gr g w wx ∧ W0.heap.size ≤ wx.heap.size ∧ (¬ L p1 → Gr g W0 wx) ∧ (¬ L p2 → B wx)
/-- the same without a cursor: all only grows -/
def IExt (w W0 : World) (p1 p2 : Nat) (B : World → Prop) (k : Nat) (L : Nat → Prop) (wx : World) : Prop :=
 Below w.heap.size w wx ∧ W0.heap.size ≤ wx.heap.size ∧ (¬ L p1 → Below W0.heap.size W0 wx) ∧ (¬ L p2 → B wx)
theorem Gr.refl (g : Nat) (w : World) : Gr g w w := Gr.of_ext (ext_refl w)
theorem Gr.alloc (g : Nat) (w : World) (o : Obj) : Gr g w (w.alloc o) := Gr.of_ext (ext_alloc (ext_refl w) o)
/-- the literal row of one struct of two cells -/
theorem own_blk2 {w : World} {B x e : Nat} {a b : Value} (h : Blk w x e #[a, b]) (hB : B ≤ x) : w.ownsRow B e 2 (.slice (some ⟨x, 0, none⟩) 1 1) 1 [a, b] :=
 ⟨by simp, .inr ⟨x, 1, #[a, b], rfl, hB, h, Nat.le_refl _, by unfold maxLen; omega, by simp, by simp⟩⟩
theorem allAt_blk {w : World} {g x e n : Nat} {cs : Array Value} {l : List Int} {lo hi : Int} (h : Blk w x e cs) (hcs : cs = (l.map (Value.int .i64)).toArray) (hn : n = l.length) (hne : x ≠ g) (hl : ∀ z ∈ l, lo ≤ z ∧ z ≤ hi) : AllAt w g (some ⟨x, 0, none⟩) n (IntIn lo hi) := by
 subst hcs hn
 refine ⟨x, 0, rfl, hne, fun i hi => ⟨.int .i64 l[i], ?_, l[i], rfl, hl _ (List.getElem_mem hi)⟩⟩
 have := h.cell i
 simp [hi] at this ⊢
 exact this
theorem own_blkF {w : World} {B e size g n c : Nat} {xs : List Value} (ho : w.ownsRow B e size (.slice (some ⟨g, 0, none⟩) n c) n xs) : ∃ cs, Blk w g e cs := by
 rcases ho.2 with ⟨h0, _⟩ | ⟨g', cap, cur, hv, _, hh, _⟩
 · cases h0
 · injection hv with hv
   injection hv with hv
   injection hv with hv
   subst hv
   exact ⟨cur, hh⟩
def lenAt (w : World) (N k : Nat) : Nat := match w.cell? ⟨N, k, none⟩ with
 | some (.slice _ n _) => n
 | _ => 0
theorem lenAt_of {w : World} {N k n c : Nat} {A : Option Addr} (h : w.cell? ⟨N, k, none⟩ = some (.slice A n c)) : lenAt w N k = n := by unfold lenAt; rw [h]
end Go.Proofs.Ytkcbgiegoadkbaa
