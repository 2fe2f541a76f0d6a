/- Minds: the law of StepMind, walked. -/
import Derived.Test.YtlkfffohjeoooaaVM12
import Derived.Test.YtlkfffohjeoooaaVMdH
namespace Go.Proofs.Ytlkfffohjeoooaa
open Go.RowKit
set_option linter.unusedVariables false
set_option linter.unusedSimpArgs false
theorem info_ms : (Try.prog.info? 51).map (fun i => (i.zero, i.size, i.bytes)) = some (some (.agg #[.int .i64 0, .int .i64 0]), 2, 16) := by kernel_rfl
theorem eqMindStep_any (r s : R2) (w : World) :
 Calls Try.prog 108 #[r.val, s.val] w fun e w' => e = .returned (.bool (eq2 r s)) ∧ Below w.heap.size w w' := by
 go_enter Try.func108, Try.ntmps108
 go_wp2
 all_goals go_ret
 all_goals exact ⟨by simp_all [eq2, R2.eq_iff], (by repeat (first | exact ext_refl _ | assumption | refine ext_alloc ?_ _ | refine ext_drew ?_ | refine ext_drewN ?_ _ | refine ext_set ?_ (by simp <;> omega) _ | refine ext_trans ?_ (by assumption)))⟩
set_option maxHeartbeats 1000000 in
theorem eqMindStepS_any (A A' : Option Addr) (n n' c c' : Nat) (l m : List R2) (w : World) (hn : n ≤ 1048576) (hn' : n' ≤ 1048576) (h : Reads w w.heap.size 2 A n (rowsV2 l)) (h' : Reads w w.heap.size 2 A' n' (rowsV2 m)) :
 Calls Try.prog 38 #[.slice A n c, .slice A' n' c'] w fun r w' => r = .returned (.bool (decide (l = m))) ∧ Below w.heap.size w w' := by
 have hl := rows_len2 h
 have hm := rows_len2 h'
 by_cases hne : n = n'
 · subst hne
   have H := Lib.hid h
   have H' := Lib.hid h'
   have HL := Lib.hid hl
   have HM := Lib.hid hm
   clear h h' hl hm
   go_enter Try.func38, Try.ntmps38
   go_wp2
   go_loopw [5] (fun i wr => ∃ k : Nat, k ≤ n ∧ i = .int .i64 k ∧ Below w.heap.size w wr ∧ Hid (l.take k = m.take k)) (fun i _ => n - (intOf i).toNat)
   case atStart => exact ⟨0, Nat.zero_le _, rfl, Below.refl _ _, Lib.hid rfl⟩
   case round =>
    obtain ⟨k, hk, rfl, hbl, heq⟩ := hrel
    by_cases hlt : k < n
    · obtain ⟨r, hr⟩ := list_split (l := l) (k := k) (by rw [HL.out]; exact hlt)
      obtain ⟨s, hs⟩ := list_split (l := m) (k := k) (by rw [HM.out]; exact hlt)
      obtain ⟨b, o, rfl, hb, c0, c1⟩ := rows_at2 (H.out.ext hbl (Nat.le_refl _)) hr
      obtain ⟨b', o', rfl, hb', d0, d1⟩ := rows_at2 (H'.out.ext hbl (Nat.le_refl _)) hs
      have hsucc := Lib.hid (take_eq_succ heq.out hr hs)
      clear hr hs
      cases hrs : eq2 r s
      all_goals
       go_wp2
       go_region_held3 (fun w' => w'.cell? ⟨b, o + k * 2, none⟩ = some (.int .i64 r.a) ∧ w'.cell? ⟨b, o + k * 2 + 1, none⟩ = some (.int .i64 r.b) ∧ w'.cell? ⟨b', o' + k * 2, none⟩ = some (.int .i64 s.a) ∧ w'.cell? ⟨b', o' + k * 2 + 1, none⟩ = some (.int .i64 s.b)) (first | go_keep | ((repeat' refine And.intro ?_ ?_) <;> first | assumption | exact ext_cell hb (by assumption))) (first | (go_at_call 108; refine (eqMindStep_any r s _).mono ?_; rintro e w' ⟨rfl, hb⟩; obtain ⟨hc, hf⟩ := bcell hb; have hz := hb.size; (try simp at hz)))
       go_wp2
      · go_ret
        refine ⟨ret_bool ?_, ext_trans hbl (ext_drew_left hb)⟩
        have h1 : ¬ (r = s) := by simpa [eq2] using hrs
        simp
        intro e
        exact h1 (hsucc.out.1 (by rw [e]))
      · go_roundw
        case rel => exact ⟨k + 1, by omega, by go_num, ext_trans hbl (ext_drew_left hb), Lib.hid (hsucc.out.2 (by simpa [eq2] using hrs))⟩
        case measure => simp [intOf]; omega
    · go_wp2
      go_ret
      obtain rfl : k = n := by omega
      refine ⟨ret_bool ?_, hbl⟩
      have := heq.out
      rw [List.take_of_length_le (by rw [HL.out]; exact Nat.le_refl _), List.take_of_length_le (by rw [HM.out]; exact Nat.le_refl _)] at this
      simpa using this
 · have h1 : ((n : Int) != n') = true := by simp; omega
   go_enter Try.func38, Try.ntmps38
   go_wp2
   go_ret
   refine ⟨ret_bool ?_, ext_refl _⟩
   have : ¬ (l = m) := fun e => hne (by rw [← hl, ← hm, e])
   simpa using this
theorem szMindStepS_any (A : Option Addr) (n c : Nat) (left : Int) (w : World) (hn : n ≤ 9223372036854775807) (h0 : 0 ≤ left) (h1 : left ≤ 1048576) :
 Calls Try.prog 34 #[.slice A n c, .int .i64 left] w fun e w' => e = .returned (.int .i64 (szv left n)) ∧ w = w' := by
 by_cases h : left < n
 · have h2 : left - (n : Int) < 0 := by omega
   rw [szv_no h]
   go_enter Try.func34, Try.ntmps34
   go_wp2
   go_ret
   exact ⟨rfl, rfl⟩
 · have h2 : ¬ left - (n : Int) < 0 := by omega
   rw [szv_yes h]
   go_enter Try.func34, Try.ntmps34
   go_wp2
   go_ret
   exact ⟨rfl, rfl⟩
theorem toMindStep_any (r : R2) (w : World) :
 Calls Try.prog 29 #[r.val] w fun e w' => e = .returned r.val ∧ Below w.heap.size w w' := by
 go_enter Try.func29, Try.ntmps29
 go_wp2
 refine bodyPost_ret (v := r.val) (by simp [results, Try.results29, go_sem]) rfl ⟨rfl, (by repeat (first | exact ext_refl _ | assumption | refine ext_alloc ?_ _ | refine ext_drew ?_ | refine ext_drewN ?_ _ | refine ext_set ?_ (by simp <;> omega) _ | refine ext_trans ?_ (by assumption)))⟩
set_option maxHeartbeats 1000000 in
theorem toMindStepS_any (A : Option Addr) (n c : Nat) (l : List R2) (w : World) (hn : n ≤ 1048576) (h : Reads w w.heap.size 2 A n (rowsV2 l)) :
 Calls Try.prog 36 #[.slice A n c] w (RetSlice w 51 2 n (rowsV2 l)) := by
 have hl := rows_len2 h
 have H := Lib.hid h
 have HL := Lib.hid hl
 clear h hl
 obtain ⟨i0, hi, hz0, hz1, hz2⟩ := info_parts info_ms
 go_enter Try.func36, Try.ntmps36
 go_wp2_with (at_make; refine wpList_make_full _ rfl _ _ 60 rfl w.heap.size 51 i0 _ 2 Try.underlying60 hi hz0 hz1 .i64 .i64 _ _ n rfl rfl rfl rfl (by rw [hz2]; omega) (by unfold maxLen; omega) (Nat.le_refl _) ?_; intro w0 hown0 hgrow0)
 have hb0 : Below w.heap.size w w0 := (ext_refl w).grown hgrow0 (Nat.le_refl _) (fun _ h => by cases h)
 have hfill0 : Fill w0 w.heap.size 51 (n * 2) 0 (rowsV2 l) := Fill.start (c := 0) hown0
 clear hown0 hgrow0
 go_loopw [4] (fun i wr => ∃ k : Nat, k ≤ n ∧ i = .int .i64 k ∧ Below w.heap.size w wr ∧ Fill wr w.heap.size 51 (n * 2) (k * 2) (rowsV2 l)) (fun i _ => n - (intOf i).toNat)
 case atStart => exact ⟨0, Nat.zero_le _, rfl, hb0, by simpa using hfill0⟩
 case round =>
  obtain ⟨k, hk, rfl, hbl, hfill⟩ := hrel
  by_cases hlt : k < n
  · obtain ⟨r, hr⟩ := list_split (l := l) (k := k) (by rw [HL.out]; exact hlt)
    obtain ⟨b, o, rfl, hb, c0, c1⟩ := rows_at2 (H.out.ext hbl (Nat.le_refl _)) hr
    have hG := hfill.lt
    obtain ⟨u0, g0⟩ := hfill.cell (j := k * 2) (by omega) ; obtain ⟨u1, g1⟩ := hfill.cell (j := k * 2 + 1) (by omega)
    have f0 := hfill.frozen (k * 2) ; have f1 := hfill.frozen (k * 2 + 1)
    have hr := Lib.hid hr
    go_wp2_with (first | (go_at_call 29; refine (toMindStep_any r _).mono ?_; rintro e w' ⟨rfl, hb⟩; obtain ⟨hc, hf⟩ := bcell hb; have hz := hb.size; (try simp at hz)))
    go_roundw
    case rel =>
     obtain ⟨x0, x1⟩ := rowsV_get2 hr.out
     refine ⟨k + 1, by omega, by go_num, ?_, ?_⟩
     · exact below_set2 (ext_trans hbl hb) (Nat.le_refl _)
     · have hs := (hfill.ext hb).step2 (by omega) x0 x1
       rw [show (k + 1) * 2 = k * 2 + 2 from by omega]
       exact hs
    case measure => simp [intOf]; omega
  · obtain rfl : k = n := by omega
    go_wp2
    go_ret
    exact ⟨_, _, rfl, hfill.done (Nat.le_refl _) (by unfold maxLen; omega) (by rw [rowsV_len2, HL.out]), hbl⟩
set_option maxHeartbeats 1000000 in
theorem markMindStepS_any (A : Option Addr) (n c base : Nat) (xs : List Value) (k0 : Int) (w : World) (hn : n ≤ 100000000) (h0 : 0 ≤ k0) (h1 : k0 ≤ 1000000000) (h : w.ownsRow base 51 2 (.slice A n c) n xs) :
 Calls Try.prog 39 #[.slice A n c, .int .i64 k0] w fun e w' => e = .returned (.int .i64 (k0 + (n : Int) * 2)) ∧ w'.ownsRow base 51 2 (.slice A n c) n (marks k0 (n * 2)) ∧ w.grownBy w' (Value.ownBlock (.slice A n c)) := by
 have hlen : xs.length = n * 2 := by have := h.1; omega
 have HL := Lib.hid hlen
 clear hlen
 go_enter Try.func39, Try.ntmps39
 go_wp2
 go_loopw [1, 5] (fun q i wr => ∃ k : Nat, k ≤ n ∧ i = .int .i64 k ∧ q = .int .i64 (k0 + (k : Int) * 2) ∧ wr.ownsRow base 51 2 (.slice A n c) n (marks k0 (k * 2) ++ xs.drop (k * 2)) ∧ w.grownBy wr (Value.ownBlock (.slice A n c))) (fun _ i _ => n - (intOf i).toNat)
 case atStart => exact ⟨0, Nat.zero_le _, rfl, by go_num, by simpa [marks] using h, World.grownBy.refl _ _⟩
 case round =>
  obtain ⟨k, hk, rfl, rfl, hown, hg⟩ := hrel
  by_cases hlt : k < n
  · obtain ⟨g, cap, hv, hbg, hglt⟩ := hown.form (by omega)
    injection hv with hA _ hcap
    subst hA hcap
    obtain ⟨x0, hx0⟩ : ∃ u, wr.cell? ⟨g, k * 2, none⟩ = some u := by rw [hown.cellAt (k * 2) (by omega)]; exact list_split (by have := hown.1; omega)
    obtain ⟨x1, hx1⟩ : ∃ u, wr.cell? ⟨g, k * 2 + 1, none⟩ = some u := by rw [hown.cellAt (k * 2 + 1) (by omega)]; exact list_split (by have := hown.1; omega)
    have f0 := hown.frozenAt (k * 2)
    have f1 := hown.frozenAt (k * 2 + 1)
    have s0 := (hown.stored (k * 2) (.int .i64 (k0 + (k : Int) * 2))).1
    rw [marks_set' (k := k * 2) (by rw [HL.out]; omega) (by omega)] at s0
    have s1 := (s0.stored (k * 2 + 1) (.int .i64 (k0 + (k : Int) * 2 + 1))).1
    rw [marks_set' (k := k * 2 + 1) (by rw [HL.out]; omega) (by omega)] at s1
    have hst := Lib.hid s1
    clear s0 s1 hown
    go_wp2
    go_roundw
    case rel =>
     refine ⟨k + 1, by omega, by go_num, by go_num, ?_, ?_⟩
     · rw [show (k + 1) * 2 = k * 2 + 2 from by omega]
       exact hst.out
     · exact (only_setCell (g := g) (p := ⟨g, k * 2 + 1, none⟩) (only_setCell (g := g) (p := ⟨g, k * 2, none⟩) hg (.inl rfl) _) (.inl rfl) _)
    case measure => simp [intOf]; omega
  · obtain rfl : k = n := by omega
    go_wp2
    go_ret
    exact ⟨rfl, by have hx := hown; rw [List.drop_of_length_le (by rw [HL.out]; exact Nat.le_refl _), List.append_nil] at hx; exact hx, hg⟩

def resQ (o : Option Md) : Md := o.getD ⟨0, 0, [], [], [], 0, 0⟩
theorem gd_ok {q q' : Md} (h : gdM q = some q') : mdOK q' = true := by
 unfold gdM at h
 split at h
 · injection h with h; subst h; assumption
 · cases h
theorem st_ok {q q' : Md} {k v : Int} (h : stM q k v = some q') : mdOK q' = true := by
 unfold stM at h
 split at h
 · unfold st1 at h; split at h; exact gd_ok h; cases h
 split at h
 · unfold st2 at h; split at h; exact gd_ok h; cases h
 split at h
 · unfold st3 at h; split at h; exact gd_ok h; cases h
 split at h
 · unfold st4 at h; split at h; exact gd_ok h; cases h
 split at h
 · unfold st5 at h; split at h; exact gd_ok h; cases h
 · cases h
theorem ok_len {q : Md} (h : mdOK q = true) : q.l.length ≤ 1048576 ∧ q.cl.length ≤ 1048576 ∧ q.im.length ≤ 1048576 := by
 obtain ⟨hg, h1, h2, _⟩ := mdOK_parts h
 have := (frB_head (good_fr hg)).2.2.2
 omega
theorem resQ_len {q : Md} {k v : Int} : (resQ (stepO q k v)).l.length ≤ 1048576 ∧ (resQ (stepO q k v)).cl.length ≤ 1048576 ∧ (resQ (stepO q k v)).im.length ≤ 1048576 := by
 unfold stepO
 split
 · cases h : stM q k v with
   | none => exact ⟨Nat.zero_le _, Nat.zero_le _, Nat.zero_le _⟩
   | some q' => exact ok_len (st_ok h)
 · exact ⟨Nat.zero_le _, Nat.zero_le _, Nat.zero_le _⟩
/-- a mind and a bool come back, in one form -/
def RetU (w : World) (q : Md) (ok : Bool) (e : Ending) (w' : World) : Prop :=
 ∃ A c K kc I ic, e = .returned (.tuple #[mdV q.u q.lo A q.l.length c K q.cl.length kc I q.im.length ic q.be q.gu, .bool ok]) ∧ (Value.ownBlock (.slice K q.cl.length kc) = none ∨ Value.ownBlock (.slice K q.cl.length kc) ≠ Value.ownBlock (.slice I q.im.length ic)) ∧
  w'.ownsRow w.heap.size 155 2 (.slice A q.l.length c) q.l.length (rowsV2 q.l) ∧ w'.ownsRow w.heap.size 3 1 (.slice K q.cl.length kc) q.cl.length (intsV q.cl) ∧ w'.ownsRow w.heap.size 3 1 (.slice I q.im.length ic) q.im.length (intsV q.im) ∧ Below w.heap.size w w'
theorem retU (o : Option Md) (w : World) (e : Ending) (w' : World) (h : RetSt w o e w') : RetU w (resQ o) o.isSome e w' := by
 cases o with
 | none =>
   obtain ⟨rfl, hb⟩ := h
   exact ⟨none, 0, none, 0, none, 0, rfl, .inl rfl, World.ownsRow_nil _ _ _ _, World.ownsRow_nil _ _ _ _, World.ownsRow_nil _ _ _ _, hb⟩
 | some q =>
   show RetU w q true e w'
   obtain ⟨h, c, g, kc, i, ic, rfl, hr, hc, hi, hne, hb⟩ := h
   have e1 := ints_len (Reads.of_own hc)
   have e2 := ints_len (Reads.of_own hi)
   unfold RetU
   rw [e1, e2]
   exact ⟨_, c, _, kc, _, ic, rfl, .inr (by intro e; injection e with e; exact hne e), hr, hc, hi, hb⟩
end Go.Proofs.Ytlkfffohjeoooaa
