/- A step: the program's, whole. -/
import Derived.Test.YtkcbgiegoadkbaaGreatVScSc
import Derived.Test.YtkcbgiegoadkbaaGreatVScSd
import Derived.Test.YtkcbgiegoadkbaaGreatVScSe
import Derived.Test.YtkcbgiegoadkbaaGreatVM4
import Derived.Test.YtkcbgiegoadkbaaGreatVM1
import Derived.Test.YtkcbgiegoadkbaaGreatVCurS
import Derived.Test.YtkcbgiegoadkbaaGreatVM2
import Derived.Test.YtkcbgiegoadkbaaGreatVM3
namespace Go.Proofs.YtkcbgiegoadkbaaGreat
open Go.RowKit
set_option linter.unusedVariables false
set_option linter.unusedSimpArgs false
theorem stepS_enr {day pa le : Int} {l : List R5} {id v : Int} : stepS day pa le l 2 id v = ((enr day l id v).map fun L => (day, L, pa, le)).filter fun q => schB q.1 q.2.1 q.2.2.1 q.2.2.2 := by
 unfold stepS tryS enr
 rw [if_neg (by omega), if_pos rfl]
 split <;> rfl
theorem stepped_any (day pa le k id v : Int) (A : Option Addr) (n c : Nat) (l : List R5) (w : World) (hA : SlOk A n c) (h : Reads w w.heap.size 5 A n (rowsV l)) (hs : schB day l pa le = true) (hv2 : v ≤ 9223372036854775807) :
 Calls Tryz.prog 60 #[schV day A n c pa le, .agg #[.int .i64 k, .int .i64 id, .int .i64 v]] w (RetSch (stepS day pa le l k id v) w) := by
 have hn : n ≤ 8 := by have := schB_len hs; have := rows_len h; omega
 by_cases h1 : k = 1
 · subst h1
   by_cases hb : id ≠ 0 ∨ v < 1
   · have : stepS day pa le l 1 id v = none := by unfold stepS tryS; rw [if_pos rfl, if_pos hb]; rfl
     rw [this]
     exact stepped_wait_no day pa le id v A n c l w hn hA h hb
   · have hid : id = 0 := by omega
     have hv : 1 ≤ v := by omega
     rw [stepS_1 (by simp [stepOk]; omega)]
     exact stepped_wait day pa le id v A n c l w hn hA h hid hv hv2 hs
 by_cases h2 : k = 2
 · subst h2
   rw [stepS_enr]
   exact stepped_enrol day pa le id v A n c l w hn hA h hs
 by_cases h3 : k = 3 ∨ k = 4 ∨ k = 5 ∨ k = 6
 · rcases findI_cases l id with ⟨hf, _⟩ | ⟨i, r, hf, hr, _, _⟩
   · rw [find_none h3 hf]
     rcases h3 with rfl | rfl | rfl | rfl
     · exact stepped_find_no_3 day pa le id v A n c l w hn hA h hf
     · exact stepped_find_no_4 day pa le id v A n c l w hn hA h hf
     · exact stepped_find_no_5 day pa le id v A n c l w hn hA h hf
     · exact stepped_find_no_6 day pa le id v A n c l w hn hA h hf
   · rw [stepS_t h3 hf hr]
     rcases h3 with rfl | rfl | rfl | rfl
     · exact stepped_3 day pa le id v A n c l w hn hA h i r hf hr hs
     · exact stepped_4 day pa le id v A n c l w hn hA h i r hf hr hs
     · exact stepped_5 day pa le id v A n c l w hn hA h i r hf hr hs
     · exact stepped_6 day pa le id v A n c l w hn hA h i r hf hr hs
 · have : stepS day pa le l k id v = none := by unfold stepS tryS; rw [if_neg h1, if_neg h2, if_neg h3]; rfl
   rw [this]
   exact stepped_else day pa le k id v A n c l w hn hA h (by omega)
/-- what StepSchool answers -/
def stpB (day pa le : Int) (l : List R5) (k id v : Int) : Option Sch4 := if schB day l pa le = true then stepS day pa le l k id v else none
theorem RetSch.left {o : Option Sch4} {w w1 : World} (hb : Below w.heap.size w w1) {e : Ending} {w' : World} (h : RetSch o w1 e w') : RetSch o w e w' := by
 rcases o with _ | ⟨d, l, p, q⟩
 · exact ⟨h.1, ext_trans hb h.2⟩
 · obtain ⟨A, c, h1, h2, h3⟩ := h
   exact ⟨A, c, h1, own_base h2 hb.size, ext_trans hb h3⟩
end Go.Proofs.YtkcbgiegoadkbaaGreat
namespace Go.Proofs.YtkcbgiegoadkbaaGreat
open Go.RowKit
set_option linter.unusedVariables false
set_option linter.unusedSimpArgs false
theorem most_any (a b : Int) (w : World) : Calls Tryz.prog 46 #[.int .i64 a, .int .i64 b] w fun e w' => e = .returned (.int .i64 (if b < a then a else b)) ∧ w = w' := by
 by_cases h : b < a
 · rw [if_pos h]
   go_enter Tryz.func46, Tryz.ntmps46
   go_wp2
   go_ret
   exact ⟨rfl, rfl⟩
 · rw [if_neg h]
   go_enter Tryz.func46, Tryz.ntmps46
   go_wp2
   go_ret
   exact ⟨rfl, rfl⟩
theorem l25Wanted_any (z : Int) (w : World) (h0 : 0 ≤ z) (h1 : z ≤ 1000) : Calls Tryz.prog 105 #[.int .i64 z] w fun e w' => e = .returned (.int .i64 (10 + 5 * z)) ∧ w = w' := by
 go_enter Tryz.func105, Tryz.ntmps105
 go_wp2
 go_ret
 exact ⟨rfl, rfl⟩
def passB (r : R5) (v : Int) : Bool := decide (70 ≤ v) && decide (10 + 5 * r.b ≤ r.c)
theorem l25Passes_any (r : R5) (v : Int) (w : World) (h0 : 0 ≤ r.b) (h1 : r.b ≤ 10) : Calls Tryz.prog 103 #[r.val, .int .i64 v] w fun e w' => e = .returned (.bool (passB r v)) ∧ Below w.heap.size w w' := by
 by_cases h70 : 70 ≤ v
 · have h70' : decide (70 ≤ v) = true := by simpa using h70
   rw [show passB r v = decide (10 + 5 * r.b ≤ r.c) from by simp [passB, h70]]
   go_enter Tryz.func103, Tryz.ntmps103
   go_wp2
   (refine wp_region_later (by kernel_rfl) (by kernel_rfl) ?_; (repeat (go_big_quiet_step ((go_at_call 105; exact Calls.later_same (l25Wanted_any _ _ (by omega) (by omega)))))); refine wpQuiet_nil ?_; intro w1 hw1; obtain ⟨⟨wl, hbL⟩, hw1'⟩ := hw1; simp only at hw1'; subst hw1'; obtain ⟨hcL, hfL⟩ := bcell hbL)
   go_wp2
   go_ret
   exact ⟨rfl, ext_trans (ext_alloc (ext_refl _) _) hbL⟩
 · have h70' : decide (70 ≤ v) = false := by simpa using h70
   rw [show passB r v = false from by simp [passB, h70]]
   go_enter Tryz.func103, Tryz.ntmps103
   go_wp2
   (refine wp_region_later (by kernel_rfl) (by kernel_rfl) ?_; (repeat (go_big_quiet_step (fail))); refine wpQuiet_nil ?_; intro w1 hw1; obtain ⟨⟨wl, hbL⟩, hw1'⟩ := hw1; simp only at hw1'; subst hw1'; obtain ⟨hcL, hfL⟩ := bcell hbL)
   go_wp2
   go_ret
   exact ⟨rfl, ext_trans (ext_alloc (ext_refl _) _) hbL⟩
/-- a student's change, and whether it is possible -/
def chgR (r : R5) (k v day : Int) : R5 :=
 if k = 5 then ⟨r.a, r.b, r.c, (if day < r.d then r.d else day) + v, r.e⟩ else if k = 3 then ⟨r.a, r.b, r.c + v, r.d, r.e⟩ else if passB r v = true then ⟨r.a, r.b + 1, 0, r.d, 0⟩ else ⟨r.a, r.b, r.c, r.d, r.e + 1⟩
def chgB (r : R5) (k day : Int) : Bool := if k = 5 then true else if k = 3 then decide (day ≤ r.d) else decide (day ≤ r.d) && decide (r.b < 10)
set_option maxHeartbeats 1000000 in
theorem l25Change_5 (r : R5) (id v day : Int) (w : World) (hs : stuB r = true) (hd : 0 ≤ day ∧ day ≤ 4000) (hv : 1 ≤ v ∧ v ≤ 365) :
 Calls Tryz.prog 108 #[r.val, .agg #[.int .i64 5, .int .i64 id, .int .i64 v], .int .i64 day] w fun e w' => e = .returned (.tuple #[(chgR r 5 v day).val, .bool (chgB r 5 day)]) ∧ Below w.heap.size w w' := by
 obtain ⟨q1, q2, q3, q4, q5⟩ := stu_bounds hs
 obtain ⟨M, hM⟩ : ∃ M, M = (if day < r.d then r.d else day) := ⟨_, rfl⟩
 have hM0 : 0 ≤ M ∧ M ≤ 4365 := by rw [hM]; split <;> omega
 have HM := Lib.hid (most_any r.d day)
 rw [← hM] at HM
 rw [show chgR r 5 v day = ⟨r.a, r.b, r.c, M + v, r.e⟩ from by simp [chgR, hM], show chgB r 5 day = true from by simp [chgB]]
 clear hM
 go_enter Tryz.func108, Tryz.ntmps108
 go_wp2
 (refine wp_region_later_tail 8 (by kernel_rfl) (by kernel_rfl) ?_; simp only [List.take_succ_cons, List.take_zero, List.drop_succ_cons, List.drop_zero]; (repeat (go_big_quiet_step (first | (go_at_call 46; exact Calls.later_same (HM.out _))))); refine wpQuiet_nil ?_; intro w1 hw1; obtain ⟨⟨wl, hbL⟩, hw1'⟩ := hw1; simp only at hw1'; subst hw1'; obtain ⟨hcL, hfL⟩ := bcell hbL)
 have z0 : w.heap.size + 1 + 1 + 1 < w1.heap.size := by (have := hbL.size; simp at this; omega)
 have z1 : w.heap.size + 1 + 1 < w1.heap.size := by omega
 go_wp2
 refine bodyPost_ret (v := .tuple #[.agg #[.int .i64 r.a, .int .i64 r.b, .int .i64 r.c, .int .i64 (M + v), .int .i64 r.e], .bool true]) (by simp [results, Tryz.results108, go_sem, *]) rfl ⟨rfl, ?_⟩
 repeat (first | (with_reducible refine ext_set ?_ (by simp <;> omega) _) | exact ext_trans (ext_alloc (ext_alloc (ext_alloc (ext_alloc (ext_refl _) _) _) _) _) hbL)
set_option maxHeartbeats 2000000 in
theorem l25Change_3 (r : R5) (id v day : Int) (w : World) (hs : stuB r = true) (hd : 0 ≤ day ∧ day ≤ 4000) (hv : 0 ≤ v ∧ v ≤ 365) :
 Calls Tryz.prog 108 #[r.val, .agg #[.int .i64 3, .int .i64 id, .int .i64 v], .int .i64 day] w fun e w' => e = .returned (.tuple #[(chgR r 3 v day).val, .bool (chgB r 3 day)]) ∧ Below w.heap.size w w' := by
 obtain ⟨q1, q2, q3, q4, q5⟩ := stu_bounds hs
 rw [show chgR r 3 v day = ⟨r.a, r.b, r.c + v, r.d, r.e⟩ from by simp [chgR], show chgB r 3 day = decide (day ≤ r.d) from by simp [chgB]]
 go_enter Tryz.func108, Tryz.ntmps108
 go_wp2
 go_region
 go_wp2
 refine bodyPost_ret (v := .tuple #[.agg #[.int .i64 r.a, .int .i64 r.b, .int .i64 (r.c + v), .int .i64 r.d, .int .i64 r.e], .bool (decide (day ≤ r.d))]) (by simp [results, Tryz.results108, go_sem, *]) rfl ⟨rfl, ?_⟩
 repeat (first | (with_reducible refine ext_set ?_ (by simp <;> omega) _) | (with_reducible refine ext_drew ?_) | exact ext_alloc (ext_alloc (ext_alloc (ext_alloc (ext_refl _) _) _) _) _)
set_option maxHeartbeats 2000000 in
theorem l25Change_4 (r : R5) (id v day : Int) (w : World) (hs : stuB r = true) (hd : 0 ≤ day ∧ day ≤ 4000) (hv : 0 ≤ v ∧ v ≤ 365) :
 Calls Tryz.prog 108 #[r.val, .agg #[.int .i64 4, .int .i64 id, .int .i64 v], .int .i64 day] w fun e w' => e = .returned (.tuple #[(chgR r 4 v day).val, .bool (chgB r 4 day)]) ∧ Below w.heap.size w w' := by
 obtain ⟨q1, q2, q3, q4, q5⟩ := stu_bounds hs
 have HP := Lib.hid (fun w => l25Passes_any r v w (by omega) (by omega))
 obtain ⟨R, hR⟩ : ∃ R, R = chgR r 4 v day := ⟨_, rfl⟩
 have hpb : (passB r v = true ∧ R = ⟨r.a, r.b + 1, 0, r.d, 0⟩) ∨ (passB r v = false ∧ R = ⟨r.a, r.b, r.c, r.d, r.e + 1⟩) := by
  rw [hR]
  rcases h : passB r v with _ | _
  · right; simp [chgR, h]
  · left; simp [chgR, h]
 rw [← hR]
 clear hR
 by_cases hdr : day ≤ r.d
 · have hdr' : decide (day ≤ r.d) = true := by simpa using hdr
   rw [show chgB r 4 day = decide (r.b < 10) from by simp [chgB, hdr]]
   rcases hpb with ⟨h1, rfl⟩ | ⟨h1, rfl⟩
   all_goals
    rw [h1] at HP
    clear h1
    go_enter Tryz.func108, Tryz.ntmps108
    go_wp2_with fail
    refine (HP.out _).mono ?_
    rintro e w2 ⟨rfl, hb2⟩
    obtain ⟨hc2, hf2⟩ := bcell hb2
    have y0 : w.heap.size + 1 + 1 + 1 < w2.heap.size := by (have := hb2.size; simp at this; omega)
    have y1 : w.heap.size + 1 + 1 < w2.heap.size := by omega
    have y2 : w.heap.size + 1 < w2.heap.size := by omega
    have y3 : w.heap.size < w2.heap.size := by omega
    have b2 := Lib.hid (ext_trans (ext_alloc (ext_alloc (ext_alloc (ext_alloc (ext_refl w) _) _) _) _) hb2)
    clear hb2
    go_wp2
    go_region
    go_wp2
   · refine bodyPost_ret (v := .tuple #[.agg #[.int .i64 r.a, .int .i64 (r.b + 1), .int .i64 0, .int .i64 r.d, .int .i64 0], .bool (decide (r.b < 10))]) (by simp [results, Tryz.results108, go_sem, *]) rfl ⟨rfl, ?_⟩
     repeat (first | (with_reducible refine ext_set ?_ (by simp <;> omega) _) | (with_reducible refine ext_drew ?_) | (with_reducible exact b2.out))
   · refine bodyPost_ret (v := .tuple #[.agg #[.int .i64 r.a, .int .i64 r.b, .int .i64 r.c, .int .i64 r.d, .int .i64 (r.e + 1)], .bool (decide (r.b < 10))]) (by simp [results, Tryz.results108, go_sem, *]) rfl ⟨rfl, ?_⟩
     repeat (first | (with_reducible refine ext_set ?_ (by simp <;> omega) _) | (with_reducible refine ext_drew ?_) | (with_reducible exact b2.out))
 · have hdr' : decide (day ≤ r.d) = false := by simpa using hdr
   rw [show chgB r 4 day = false from by simp [chgB, hdr]]
   rcases hpb with ⟨h1, rfl⟩ | ⟨h1, rfl⟩
   all_goals
    rw [h1] at HP
    clear h1
    go_enter Tryz.func108, Tryz.ntmps108
    go_wp2_with fail
    refine (HP.out _).mono ?_
    rintro e w2 ⟨rfl, hb2⟩
    obtain ⟨hc2, hf2⟩ := bcell hb2
    have y0 : w.heap.size + 1 + 1 + 1 < w2.heap.size := by (have := hb2.size; simp at this; omega)
    have y1 : w.heap.size + 1 + 1 < w2.heap.size := by omega
    have y2 : w.heap.size + 1 < w2.heap.size := by omega
    have y3 : w.heap.size < w2.heap.size := by omega
    have b2 := Lib.hid (ext_trans (ext_alloc (ext_alloc (ext_alloc (ext_alloc (ext_refl w) _) _) _) _) hb2)
    clear hb2
    go_wp2
    go_region
    go_wp2
   · refine bodyPost_ret (v := .tuple #[.agg #[.int .i64 r.a, .int .i64 (r.b + 1), .int .i64 0, .int .i64 r.d, .int .i64 0], .bool (false)]) (by simp [results, Tryz.results108, go_sem, *]) rfl ⟨rfl, ?_⟩
     repeat (first | (with_reducible refine ext_set ?_ (by simp <;> omega) _) | (with_reducible refine ext_drew ?_) | (with_reducible exact b2.out))
   · refine bodyPost_ret (v := .tuple #[.agg #[.int .i64 r.a, .int .i64 r.b, .int .i64 r.c, .int .i64 r.d, .int .i64 (r.e + 1)], .bool (false)]) (by simp [results, Tryz.results108, go_sem, *]) rfl ⟨rfl, ?_⟩
     repeat (first | (with_reducible refine ext_set ?_ (by simp <;> omega) _) | (with_reducible refine ext_drew ?_) | (with_reducible exact b2.out))
end Go.Proofs.YtkcbgiegoadkbaaGreat
namespace Go.Proofs.YtkcbgiegoadkbaaGreat
open Go.RowKit
set_option linter.unusedVariables false
set_option linter.unusedSimpArgs false
theorem wp_append_none {P : Program} {w : World} {o : Oper} {a : Act} {K : Act → World → Prop} {Q : Exit → Act → World → Prop} (s x : Operand) (t : TypeId)
 (ho : o.op = .call { callee := .builtin .append, args := #[s, x], argTypes := #[t, t] }) (base : Nat) (e : TypeId) (i : TypeInfo) (size : Nat) (ht : P.underlying t = some (.slice e)) (hi : P.info? e = some i)
 (v : Value) (n : Nat) (xs : List Value) (hs : a.eval s = v) (hown : w.ownsRow base e size v n xs) (hx : a.eval x = .slice none 0 0) (h : K (a.put o.dst v) w) : o.wp P a w K Q := by
 have hr := run_append_owned_none (P := P) w base t o.type e i size ht hi v n xs hown
 unfold Oper.wp execOp
 simp only [ho, resolve, invoke, builtin, Sem.run_bind, Sem.run_pure, Result.andThen_ok, List.map_toArray, List.map_cons, List.map_nil, hs, hx, hr]
 exact h
theorem step_app {P : Program} {w : World} {ops : Array Oper} {o : Oper} {a : Act} {K : Act → World → Prop} {Q : Exit → Act → World → Prop} {E : Prop} (hgd : o.guard = none) (s x : Operand) (t : TypeId)
 (ho : o.op = .call { callee := .builtin .append, args := #[s, x], argTypes := #[t, t] })
 (e : TypeId) (i : TypeInfo) (z : Value) (size bytes : Nat) (ht : P.underlying t = some (.slice e)) (hi : P.info? e = some i) (hz : i.zero = some z)
 (hsize : i.size = size) (hby : i.bytes = bytes) (hzs : z.cells.size = size) (hsz : 0 < size)
 (wr : World) (hbl : Below wr.heap.size wr w) (v : Value) (n : Nat) (xs : List Value) (hs : a.eval s = v) (hown : w.ownsRow wr.heap.size e size v n xs)
 (ao : Option Addr) (m c : Nat) (news : List Value) (hx : a.eval x = .slice ao m c) (hl : news.length = m * size) (hnone : ao = none → m = 0 ∧ c = 0) (hnews : ∀ ad, ao = some ad → ∀ j u, news[j]? = some u → w.cell? (ad.add j) = some u) (h1 : ∀ u ∈ news, u.oneCell' = true)
 (h63 : n + m ≤ maxLen) (hbytes : (n + m) * bytes ≤ 140737488355328)
 (h : ∀ v' w', w'.ownsRow wr.heap.size e size v' (n + m) (xs ++ news) → Below wr.heap.size wr w' → w.grownBy w' v.ownBlock → K (a.put o.dst v') w') :
 if Region.wanted o (yielded ops a.tmps) = true then Oper.wp P o a w K Q else E := by
 rw [if_pos (by simp [Region.wanted, hgd])]
 cases ao with
 | some ad =>
   exact wp_append_own w s x t ho wr.heap.size e i z size bytes ht hi hz hsize hby hzs hsz v n xs hs hown ad m c news hx hl (hnews ad rfl) h1 h63 hbytes hbl.size (fun v' w' a b _ => h v' w' a (below_grown' hown (Nat.le_refl _) hbl b) b)
 | none =>
   obtain ⟨rfl, rfl⟩ := hnone rfl
   obtain rfl : news = [] := List.eq_nil_of_length_eq_zero (by rw [hl]; simp)
   exact wp_append_none s x t ho wr.heap.size e i size ht hi v n xs hs hown hx (h v w (by simpa using hown) hbl (World.grownBy.refl _ _))
theorem own_fresh {w wr : World} (hb : wr.heap.size ≤ w.heap.size) (E size : Nat) : (w.alloc (.cells #[] E)).ownsRow wr.heap.size E size (.slice (some ⟨w.heap.size, 0, none⟩) 0 0) 0 [] := own_base (own_lit0 w E size) hb
/-- the cells of a slice that is cut out of another, behind a place -/
theorem cut_cells {w wr : World} {A : Option Addr} {n : Nat} {l : List R5} (h : Reads wr wr.heap.size 5 A n (rowsV l)) (hb : Below wr.heap.size wr w) {i : Nat} (hi : i ≤ n) (ad : Addr) (had : i < n → ∀ b o, A = some ⟨b, o, none⟩ → ad = ⟨b, o + i * 5, none⟩) :
 ∀ j u, (rowsV (l.drop i))[j]? = some u → w.cell? (ad.add j) = some u := by
 intro j u hj
 have hl := rows_len h
 have hlt := (List.getElem?_eq_some_iff.1 hj).1
 rw [rowsV_len, List.length_drop, hl] at hlt
 have hin : i < n := by omega
 obtain ⟨b, o, hA, hbb, hc⟩ := h.2 (by omega)
 rw [had hin b o hA, add_flat]
 have e1 : rowsV l = rowsV (l.take i) ++ rowsV (l.drop i) := by rw [← rowsV_app, List.take_append_drop]
 have hlen : (rowsV (l.take i)).length = i * 5 := by rw [rowsV_len, List.length_take, hl, Nat.min_eq_left hi]
 refine (hb.cell (p := ⟨b, o + i * 5 + j, none⟩) hbb).trans ?_
 rw [show o + i * 5 + j = o + (i * 5 + j) from by omega]
 refine hc _ _ ?_
 rw [e1, List.getElem?_append_right (by omega), hlen, show i * 5 + j - i * 5 = j from by omega, hj]
/-- the cells of a slice's head -/
theorem head_cells {w wr : World} {A : Option Addr} {n : Nat} {l : List R5} (h : Reads wr wr.heap.size 5 A n (rowsV l)) (hb : Below wr.heap.size wr w) {i : Nat} (hi : i ≤ n) (ad : Addr) (had : A = some ad) :
 ∀ j u, (rowsV (l.take i))[j]? = some u → w.cell? (ad.add j) = some u := by
 intro j u hj
 have hl := rows_len h
 have hlt := (List.getElem?_eq_some_iff.1 hj).1
 have hlen : (rowsV (l.take i)).length = i * 5 := by rw [rowsV_len, List.length_take, hl, Nat.min_eq_left hi]
 obtain ⟨b, o, hA, hbb, hc⟩ := h.2 (by omega)
 rw [hA] at had
 injection had with had
 subst had
 rw [add_flat]
 have e1 : rowsV l = rowsV (l.take i) ++ rowsV (l.drop i) := by rw [← rowsV_app, List.take_append_drop]
 refine (hb.cell (p := ⟨b, o + j, none⟩) hbb).trans (hc _ _ ?_)
 rw [e1, List.getElem?_append_left hlt, hj]
theorem ite_map_none {P : Prop} [Decidable P] {A : Option Addr} {f : Addr → Addr} (e : (if P then A else Option.map f A) = none) : A = none := by
 split at e
 · exact e
 · simpa using e
end Go.Proofs.YtkcbgiegoadkbaaGreat
namespace Go.Proofs.YtkcbgiegoadkbaaGreat
open Go.RowKit
set_option linter.unusedVariables false
set_option linter.unusedSimpArgs false
set_option maxRecDepth 100000 in
set_option maxHeartbeats 4000000 in
theorem command_any (g a : Nat) (D P Q : Int) (A : Option Addr) (n c : Nat) (l : List R5) (d p : ByteArray) (z : Int) (w : World) (h : CurAt w g a) (ha : a ≤ 500000000000) (hn : n ≤ 60000) (ho : w.ownsRow (g + 1) 111 5 (.slice A n c) n (rowsV l)) (hid : ∀ r ∈ l, 0 ≤ r.a ∧ r.a ≤ 100) :
 Calls Tryz.prog 19 #[.pointer (some ⟨g, 0, none⟩), conV D A n c P Q d p z] w (DrawStr g a 30 60 w) := by
 have hlt := h.lt
 have H := Lib.hid h
 have O := Lib.hid ho
 have HID := Lib.hid hid
 clear h ho hid
 go_enter Tryz.func19, Tryz.ntmps19
 go_wp2_with fail
 have e0 : Below w.heap.size w (w.alloc (.cells #[.int .i64 D, .slice A n c, .int .i64 P, .int .i64 Q, .string d, .string p, .int .i64 z] 34)) := ext_alloc (ext_refl _) _
 have C0 := H.out.ext e0
 have O0 := own_ext O.out e0
 refine (schoolStep_any g a D P Q A n c l _ C0 (by omega) hn O0 HID.out).mono ?_
 rintro e wq ⟨k, id, v, a1, rfl, ⟨k0, k1⟩, ⟨id0, id1⟩, ⟨v0, vv⟩, ha1, hc, hg⟩
 have C1 := Lib.hid hc
 have G1 : Hid (Gr g w wq) := Lib.hid ((Gr.of_ext (ext_alloc (ext_refl w) _)).trans hg)
 have sW := G1.out.size
 clear hc hg
 obtain ⟨w2, hw2⟩ : ∃ w2, w2 = wq.alloc (.cells #[.int .i64 k, .int .i64 id, .int .i64 v] 82) := ⟨_, rfl⟩
 have BX : Hid (Blk w2 wq.heap.size 82 #[.int .i64 k, .int .i64 id, .int .i64 v]) := Lib.hid (by rw [hw2]; exact Blk.new _ _ _)
 have C2 : Hid (CurAt w2 g a1) := Lib.hid (by rw [hw2]; exact C1.out.ext (ext_alloc (ext_refl _) _))
 have G2 : Hid (Gr g w w2) := Lib.hid (by rw [hw2]; exact G1.out.trans (Gr.of_ext (ext_alloc (ext_refl _) _)))
 have sX := BX.out.lt
 obtain ⟨x0, x1, x2⟩ := BX.out.q3
 obtain ⟨fx0, fx1, fx2⟩ := BX.out.z3
 go_upto_region 2 with fail
 rw [← hw2]
 clear hw2 C1 G1
 have m0 : (if id < 0 then (0 : Int) else id) = id := if_neg (by omega)
 have m1 : ∀ w : World, Calls Tryz.prog 46 #[.int .i64 0, .int .i64 id] w fun e w' => e = .returned (.int .i64 id) ∧ w = w' := fun w => by have := most_any 0 id w; rw [m0] at this; exact this
 have m2 : ∃ V : Int, (0 ≤ V ∧ V ≤ 4001) ∧ ∀ w : World, Calls Tryz.prog 46 #[.int .i64 0, .int .i64 v] w fun e w' => e = .returned (.int .i64 V) ∧ w = w' := ⟨if v < 0 then 0 else v, by split <;> omega, fun w => most_any 0 v w⟩
 obtain ⟨V, ⟨V0, V1⟩, m2⟩ := m2
 have M1 := Lib.hid m1
 have M2 := Lib.hid m2
 clear m0 m1 m2
 have zN := decI_size id
 have zV := decI_size V
 have N1 := Lib.hid (fun w => l1Num_any id w (by omega) (by omega))
 have N2 := Lib.hid (fun w => l1Num_any V w (by omega) (by omega))
 obtain ⟨tn, htn⟩ : ∃ tn, decI id = tn := ⟨_, rfl⟩
 obtain ⟨tv, htv⟩ : ∃ tv, decI V = tv := ⟨_, rfl⟩
 rw [htn] at N1 zN
 rw [htv] at N2 zV
 clear htn htv
 (refine wp_region_later (by kernel_rfl) (by kernel_rfl) ?_; (repeat (go_big_quiet_step (first | (go_at_call 46; first | with_reducible exact Calls.later_same (M1.out _) | with_reducible exact Calls.later_same (M2.out _)) | (go_at_call 45; first | with_reducible exact Calls.later_of (N1.out _) | with_reducible exact Calls.later_of (N2.out _))))); refine wpQuiet_nil ?_; intro w1 hw1; obtain ⟨⟨wl, hbL⟩, hw1'⟩ := hw1; simp only at hw1'; subst hw1'; obtain ⟨hcL, hfL⟩ := bcell hbL)
 have C3 := Lib.hid (C2.out.ext hbL)
 have G3 := Lib.hid (G2.out.trans (Gr.of_ext hbL))
 have BX3 := Lib.hid (BX.out.ext hbL)
 clear hbL C2 G2 BX x0 fx0 x1 fx1 x2 fx2
 go_wp2_with fail
 refine (pick_any g a1 6 _ C3.out (by omega) (by omega) (by omega)).mono ?_
 rintro e w4 ⟨q, a2, rfl, q0, q1, ha2, hc, hg⟩
 have C4 := Lib.hid hc
 have G4 := Lib.hid (G3.out.trans hg)
 have BX4 := Lib.hid (BX3.out.gr hg (by omega))
 have sX4 := BX4.out.lt
 clear hc hg C3 G3 BX3
 obtain ⟨y0, y1, y2⟩ := BX4.out.q3
 obtain ⟨fy0, fy1, fy2⟩ := BX4.out.z3
 rcases (show (q = 0 ∨ q = 1 ∨ q = 2 ∨ q = 3) ∨ q = 4 ∨ q = 5 by omega) with hq | rfl | rfl
 · rcases hq with rfl | rfl | rfl | rfl
   all_goals
    rcases (show k = 1 ∨ k = 2 ∨ k = 3 ∨ k = 4 ∨ k = 5 ∨ (k ≠ 1 ∧ k ≠ 2 ∧ k ≠ 3 ∧ k ≠ 4 ∧ k ≠ 5) by omega) with rfl | rfl | rfl | rfl | rfl | hk
    iterate 5
     · go_wp2
       go_ret
       exact ⟨_, a2, rfl, by simp only [ByteArray.size_append, lit_size]; (try simp); omega, by omega, C4.out, G4.out⟩
    · obtain ⟨h1, h2, h3, h4, h5⟩ := hk
      have b1 : (k == 1) = false := by simpa using h1
      have b2 : (k == 2) = false := by simpa using h2
      have b3 : (k == 3) = false := by simpa using h3
      have b4 : (k == 4) = false := by simpa using h4
      have b5 : (k == 5) = false := by simpa using h5
      go_wp2
      go_ret
      exact ⟨_, a2, rfl, by simp only [ByteArray.size_append, lit_size]; (try simp); omega, by omega, C4.out, G4.out⟩
 · have z8 : (⟨#[109, 105, 115, 115, 105, 110, 103, 32]⟩ ++ tn : ByteArray).size ≤ 60 := by
    rw [ByteArray.size_append]
    have : (⟨#[109, 105, 115, 115, 105, 110, 103, 32]⟩ : ByteArray).size = 8 := by decide
    omega
   have z5 : (⟨#[116, 101, 120, 116, 32]⟩ ++ tn : ByteArray).size ≤ 60 := by
    rw [ByteArray.size_append]
    have : (⟨#[116, 101, 120, 116, 32]⟩ : ByteArray).size = 5 := by decide
    omega
   go_wp2_with fail
   refine (of_lit g a2 60 [⟨#[100, 97, 121]⟩, ⟨#[114, 101, 97, 100, 121]⟩, ⟨#[117, 110, 112, 97, 105, 100]⟩, ⟨#[109, 105, 115, 115, 105, 110, 103, 32]⟩ ++ tn, ⟨#[116, 101, 120, 116, 32]⟩ ++ tn] 9 _ C4.out (by omega) (by intro s hs; simp at hs; rcases hs with rfl | rfl | rfl | rfl | rfl <;> first | decide | assumption) (by first | decide | simp) (by first | decide | simp) _ rfl rfl).mono ?_
   rintro e w5 ⟨s, a3, rfl, hs, ha3, hc, hg⟩
   have C5 := Lib.hid hc
   have G5 := Lib.hid (G4.out.trans hg)
   clear hc hg
   go_wp2
   go_ret
   exact ⟨s, a3, rfl, hs, by omega, C5.out, G5.out⟩
 · go_wp2_with fail
   refine (of_lit g a2 60 [⟨#[]⟩, ⟨#[119, 104, 97, 116]⟩, ⟨#[101, 110, 114, 111, 108, 32, 49]⟩, ⟨#[119, 97, 105, 116, 32, 120]⟩, ⟨#[119, 97, 105, 116, 32, 48]⟩, ⟨#[101, 120, 97, 109]⟩, ⟨#[108, 101, 97, 118, 101, 32, 49, 32, 50]⟩, ⟨#[109, 105, 115, 115, 105, 110, 103, 32, 48]⟩, ⟨#[97, 64, 98]⟩, ⟨#[100, 97, 121, 32, 49]⟩, ⟨#[112, 97, 121, 32, 49, 32, 50, 32, 51]⟩, ⟨#[116, 101, 120, 116, 32, 45, 49]⟩] 9 _ C4.out (by omega) (by intro s hs; simp at hs; rcases hs with rfl | rfl | rfl | rfl | rfl | rfl | rfl | rfl | rfl | rfl | rfl | rfl <;> first | decide | assumption) (by first | decide | simp) (by first | decide | simp) _ rfl rfl).mono ?_
   rintro e w5 ⟨s, a3, rfl, hs, ha3, hc, hg⟩
   have C5 := Lib.hid hc
   have G5 := Lib.hid (G4.out.trans hg)
   clear hc hg
   go_wp2
   go_ret
   exact ⟨s, a3, rfl, hs, by omega, C5.out, G5.out⟩
end Go.Proofs.YtkcbgiegoadkbaaGreat
namespace Go.Proofs.YtkcbgiegoadkbaaGreat
open Go.RowKit
set_option linter.unusedVariables false
set_option linter.unusedSimpArgs false
def runStep (q : Sch4 × Nat) (x : R3) : Sch4 × Nat := match stepS q.1.1 q.1.2.2.1 q.1.2.2.2 q.1.2.1 x.a x.b x.c with | none => q | some s => (s, q.2 + 1)
def runTo (q0 : Sch4) (xs : List R3) (k : Nat) : Sch4 × Nat := (xs.take k).foldl runStep (q0, 0)
theorem runTo_zero (q0 : Sch4) (xs : List R3) : runTo q0 xs 0 = (q0, 0) := by simp [runTo]
theorem runTo_succ {q0 : Sch4} {xs : List R3} {k : Nat} {x : R3} (h : xs[k]? = some x) : runTo q0 xs (k + 1) = runStep (runTo q0 xs k) x := by
 unfold runTo
 rw [List.take_add_one, h, List.foldl_append]
 rfl
def schQ (q : Sch4) : Bool := schB q.1 q.2.1 q.2.2.1 q.2.2.2
theorem stepS_ok {day pa le : Int} {l : List R5} {k id v : Int} {s : Sch4} (h : stepS day pa le l k id v = some s) : schQ s = true := by
 unfold stepS at h
 rcases ht : tryS day pa le l k id v with _ | q
 · rw [ht] at h; cases h
 · rw [ht, Option.filter_some] at h
   split at h
   · rename_i hs; injection h with h; rw [← h]; exact hs
   · cases h
theorem runStep_ok {q : Sch4 × Nat} (h : schQ q.1 = true) (x : R3) : schQ (runStep q x).1 = true := by
 unfold runStep
 rcases hs : stepS q.1.1 q.1.2.2.1 q.1.2.2.2 q.1.2.1 x.a x.b x.c with _ | s
 · exact h
 · exact stepS_ok hs
theorem runTo_ok {q0 : Sch4} (h : schQ q0 = true) (xs : List R3) : ∀ k, k ≤ xs.length → schQ (runTo q0 xs k).1 = true ∧ (runTo q0 xs k).2 ≤ k := by
 intro k
 induction k with
 | zero => intro _; rw [runTo_zero]; exact ⟨h, Nat.le_refl _⟩
 | succ k ih =>
   intro hk
   obtain ⟨x, hx⟩ := list_split (l := xs) (k := k) (by omega)
   obtain ⟨h1, h2⟩ := ih (by omega)
   rw [runTo_succ hx]
   refine ⟨runStep_ok h1 x, ?_⟩
   unfold runStep
   split
   · omega
   · simp only []; omega
theorem run_no {q0 : Sch4} {xs : List R3} {k m : Nat} {x : R3} {d p q : Int} {L : List R5} (h : runTo q0 xs k = ((d, L, p, q), m)) (hx : xs[k]? = some x) (hs : stepS d p q L x.a x.b x.c = none) : runTo q0 xs (k + 1) = ((d, L, p, q), m) := by
 rw [runTo_succ hx, h]
 simp only [runStep, hs]
theorem run_yes {q0 : Sch4} {xs : List R3} {k m : Nat} {x : R3} {d p q : Int} {L : List R5} {s : Sch4} (h : runTo q0 xs k = ((d, L, p, q), m)) (hx : xs[k]? = some x) (hs : stepS d p q L x.a x.b x.c = some s) : runTo q0 xs (k + 1) = (s, m + 1) := by
 rw [runTo_succ hx, h]
 simp only [runStep, hs]
theorem run_ok {q0 : Sch4} {xs : List R3} {k m : Nat} {d p q : Int} {L : List R5} (h : runTo q0 xs k = ((d, L, p, q), m)) (h0 : schQ q0 = true) (hk : k ≤ xs.length) : schB d L p q = true ∧ m ≤ k := by
 have := runTo_ok h0 xs k hk
 rw [h] at this
 exact this
/-- what RunSchool answers -/
def runB (q0 : Sch4) (xs : List R3) : Option (Sch4 × Nat) := if schQ q0 = true ∧ xs.length ≤ 40 then some (runTo q0 xs xs.length) else none
/-- a school of the call's own, a number and a bool come back, whatever the answer -/
def rD (o : Option (Sch4 × Nat)) : Int := match o with | none => 0 | some ((d, _, _, _), _) => d
def rL (o : Option (Sch4 × Nat)) : List R5 := match o with | none => [] | some ((_, l, _, _), _) => l
def rP (o : Option (Sch4 × Nat)) : Int := match o with | none => 0 | some ((_, _, p, _), _) => p
def rQ (o : Option (Sch4 × Nat)) : Int := match o with | none => 0 | some ((_, _, _, q), _) => q
def rM (o : Option (Sch4 × Nat)) : Int := match o with | none => 0 | some (_, m) => m
def RetRun (D P Q M : Int) (N : Nat) (L : List R5) (ok : Bool) (w : World) (e : Ending) (w' : World) : Prop :=
 ∃ A c, e = .returned (.tuple #[schV D A N c P Q, .int .i64 M, .bool ok]) ∧ w'.ownsRow w.heap.size 111 5 (.slice A N c) N (rowsV L) ∧ Below w.heap.size w w'
theorem rL_len (q0 : Sch4) (xs : List R3) : (rL (runB q0 xs)).length ≤ 8 := by
 unfold runB
 split
 · rename_i h
   obtain ⟨h1, _⟩ := runTo_ok h.1 xs xs.length (Nat.le_refl _)
   exact schB_len h1
 · simp [rL]
end Go.Proofs.YtkcbgiegoadkbaaGreat
