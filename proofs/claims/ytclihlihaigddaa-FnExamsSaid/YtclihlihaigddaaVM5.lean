/- A step: the program's, whole. -/
import Derived.Test.YtclihlihaigddaaVScSc
import Derived.Test.YtclihlihaigddaaVScSd
import Derived.Test.YtclihlihaigddaaVScSe
import Derived.Test.YtclihlihaigddaaVM4
import Derived.Test.YtclihlihaigddaaVM1
namespace Go.Proofs.Ytclihlihaigddaa
open Go.RowKit
set_option linter.unusedVariables false
set_option linter.unusedSimpArgs false
theorem stepS_enr {day pa le : Int} {l : List R5} {id v : Int} : stepS day pa le l 2 id v = ((enr day l id v).map fun L => (day, L, pa, le)).filter fun q => schB q.1 q.2.1 q.2.2.1 q.2.2.2 := by
 unfold stepS tryS enr
 rw [if_neg (by omega), if_pos rfl]
 split <;> rfl
theorem stepped_any (day pa le k id v : Int) (A : Option Addr) (n c : Nat) (l : List R5) (w : World) (hA : SlOk A n c) (h : Reads w w.heap.size 5 A n (rowsV l)) (hs : schB day l pa le = true) (hv2 : v ≤ 9223372036854775807) :
 Calls Try.prog 112 #[schV day A n c pa le, .agg #[.int .i64 k, .int .i64 id, .int .i64 v]] w (RetSch (stepS day pa le l k id v) w) := by
 have hn : n ≤ 8 := by have := schB_len hs; have := rows_len h; omega
 by_cases h1 : k = 1
 · subst h1
   by_cases hb : id ≠ 0 ∨ v < 1
   · have : stepS day pa le l 1 id v = none := by unfold stepS tryS; rw [if_pos rfl, if_pos hb]; rfl
     rw [this]
     exact stepped_wait_no day pa le id v A n c l w hn hA h hb
   · have hid : id = 0 := by omega
     have hv : 1 ≤ v := by omega
     rw [stepS_1 (by simp [stepOk]; omega)]
     exact stepped_wait day pa le id v A n c l w hn hA h hid hv hv2 hs
 by_cases h2 : k = 2
 · subst h2
   rw [stepS_enr]
   exact stepped_enrol day pa le id v A n c l w hn hA h hs
 by_cases h3 : k = 3 ∨ k = 4 ∨ k = 5 ∨ k = 6
 · rcases findI_cases l id with ⟨hf, _⟩ | ⟨i, r, hf, hr, _, _⟩
   · rw [find_none h3 hf]
     rcases h3 with rfl | rfl | rfl | rfl
     · exact stepped_find_no_3 day pa le id v A n c l w hn hA h hf
     · exact stepped_find_no_4 day pa le id v A n c l w hn hA h hf
     · exact stepped_find_no_5 day pa le id v A n c l w hn hA h hf
     · exact stepped_find_no_6 day pa le id v A n c l w hn hA h hf
   · rw [stepS_t h3 hf hr]
     rcases h3 with rfl | rfl | rfl | rfl
     · exact stepped_3 day pa le id v A n c l w hn hA h i r hf hr hs
     · exact stepped_4 day pa le id v A n c l w hn hA h i r hf hr hs
     · exact stepped_5 day pa le id v A n c l w hn hA h i r hf hr hs
     · exact stepped_6 day pa le id v A n c l w hn hA h i r hf hr hs
 · have : stepS day pa le l k id v = none := by unfold stepS tryS; rw [if_neg h1, if_neg h2, if_neg h3]; rfl
   rw [this]
   exact stepped_else day pa le k id v A n c l w hn hA h (by omega)
/-- what StepSchool answers -/
def stpB (day pa le : Int) (l : List R5) (k id v : Int) : Option Sch4 := if schB day l pa le = true then stepS day pa le l k id v else none
theorem RetSch.left {o : Option Sch4} {w w1 : World} (hb : Below w.heap.size w w1) {e : Ending} {w' : World} (h : RetSch o w1 e w') : RetSch o w e w' := by
 rcases o with _ | ⟨d, l, p, q⟩
 · exact ⟨h.1, ext_trans hb h.2⟩
 · obtain ⟨A, c, h1, h2, h3⟩ := h
   exact ⟨A, c, h1, own_base h2 hb.size, ext_trans hb h3⟩
end Go.Proofs.Ytclihlihaigddaa
namespace Go.Proofs.Ytclihlihaigddaa
open Go.RowKit
set_option linter.unusedVariables false
set_option linter.unusedSimpArgs false
theorem most_any (a b : Int) (w : World) : Calls Try.prog 131 #[.int .i64 a, .int .i64 b] w fun e w' => e = .returned (.int .i64 (if b < a then a else b)) ∧ w = w' := by
 by_cases h : b < a
 · rw [if_pos h]
   go_enter Try.func131, Try.ntmps131
   go_wp2
   go_ret
   exact ⟨rfl, rfl⟩
 · rw [if_neg h]
   go_enter Try.func131, Try.ntmps131
   go_wp2
   go_ret
   exact ⟨rfl, rfl⟩
theorem l25Wanted_any (z : Int) (w : World) (h0 : 0 ≤ z) (h1 : z ≤ 1000) : Calls Try.prog 132 #[.int .i64 z] w fun e w' => e = .returned (.int .i64 (10 + 5 * z)) ∧ w = w' := by
 go_enter Try.func132, Try.ntmps132
 go_wp2
 go_ret
 exact ⟨rfl, rfl⟩
def passB (r : R5) (v : Int) : Bool := decide (70 ≤ v) && decide (10 + 5 * r.b ≤ r.c)
theorem l25Passes_any (r : R5) (v : Int) (w : World) (h0 : 0 ≤ r.b) (h1 : r.b ≤ 10) : Calls Try.prog 129 #[r.val, .int .i64 v] w fun e w' => e = .returned (.bool (passB r v)) ∧ Below w.heap.size w w' := by
 by_cases h70 : 70 ≤ v
 · have h70' : decide (70 ≤ v) = true := by simpa using h70
   rw [show passB r v = decide (10 + 5 * r.b ≤ r.c) from by simp [passB, h70]]
   go_enter Try.func129, Try.ntmps129
   go_wp2
   (refine wp_region_later (by kernel_rfl) (by kernel_rfl) ?_; (repeat (go_big_quiet_step ((go_at_call 132; exact Calls.later_same (l25Wanted_any _ _ (by omega) (by omega)))))); refine wpQuiet_nil ?_; intro w1 hw1; obtain ⟨⟨wl, hbL⟩, hw1'⟩ := hw1; simp only at hw1'; subst hw1'; obtain ⟨hcL, hfL⟩ := bcell hbL)
   go_wp2
   go_ret
   exact ⟨rfl, ext_trans (ext_alloc (ext_refl _) _) hbL⟩
 · have h70' : decide (70 ≤ v) = false := by simpa using h70
   rw [show passB r v = false from by simp [passB, h70]]
   go_enter Try.func129, Try.ntmps129
   go_wp2
   (refine wp_region_later (by kernel_rfl) (by kernel_rfl) ?_; (repeat (go_big_quiet_step (fail))); refine wpQuiet_nil ?_; intro w1 hw1; obtain ⟨⟨wl, hbL⟩, hw1'⟩ := hw1; simp only at hw1'; subst hw1'; obtain ⟨hcL, hfL⟩ := bcell hbL)
   go_wp2
   go_ret
   exact ⟨rfl, ext_trans (ext_alloc (ext_refl _) _) hbL⟩
/-- a student's change, and whether it is possible -/
def chgR (r : R5) (k v day : Int) : R5 :=
 if k = 5 then ⟨r.a, r.b, r.c, (if day < r.d then r.d else day) + v, r.e⟩ else if k = 3 then ⟨r.a, r.b, r.c + v, r.d, r.e⟩ else if passB r v = true then ⟨r.a, r.b + 1, 0, r.d, 0⟩ else ⟨r.a, r.b, r.c, r.d, r.e + 1⟩
def chgB (r : R5) (k day : Int) : Bool := if k = 5 then true else if k = 3 then decide (day ≤ r.d) else decide (day ≤ r.d) && decide (r.b < 10)
set_option maxHeartbeats 1000000 in
theorem l25Change_5 (r : R5) (id v day : Int) (w : World) (hs : stuB r = true) (hd : 0 ≤ day ∧ day ≤ 4000) (hv : 1 ≤ v ∧ v ≤ 365) :
 Calls Try.prog 152 #[r.val, .agg #[.int .i64 5, .int .i64 id, .int .i64 v], .int .i64 day] w fun e w' => e = .returned (.tuple #[(chgR r 5 v day).val, .bool (chgB r 5 day)]) ∧ Below w.heap.size w w' := by
 obtain ⟨q1, q2, q3, q4, q5⟩ := stu_bounds hs
 obtain ⟨M, hM⟩ : ∃ M, M = (if day < r.d then r.d else day) := ⟨_, rfl⟩
 have hM0 : 0 ≤ M ∧ M ≤ 4365 := by rw [hM]; split <;> omega
 have HM := Lib.hid (most_any r.d day)
 rw [← hM] at HM
 rw [show chgR r 5 v day = ⟨r.a, r.b, r.c, M + v, r.e⟩ from by simp [chgR, hM], show chgB r 5 day = true from by simp [chgB]]
 clear hM
 go_enter Try.func152, Try.ntmps152
 go_wp2
 (refine wp_region_later_tail 8 (by kernel_rfl) (by kernel_rfl) ?_; simp only [List.take_succ_cons, List.take_zero, List.drop_succ_cons, List.drop_zero]; (repeat (go_big_quiet_step (first | (go_at_call 131; exact Calls.later_same (HM.out _))))); refine wpQuiet_nil ?_; intro w1 hw1; obtain ⟨⟨wl, hbL⟩, hw1'⟩ := hw1; simp only at hw1'; subst hw1'; obtain ⟨hcL, hfL⟩ := bcell hbL)
 have z0 : w.heap.size + 1 + 1 + 1 < w1.heap.size := by (have := hbL.size; simp at this; omega)
 have z1 : w.heap.size + 1 + 1 < w1.heap.size := by omega
 go_wp2
 refine bodyPost_ret (v := .tuple #[.agg #[.int .i64 r.a, .int .i64 r.b, .int .i64 r.c, .int .i64 (M + v), .int .i64 r.e], .bool true]) (by simp [results, Try.results152, go_sem, *]) rfl ⟨rfl, ?_⟩
 repeat (first | (with_reducible refine ext_set ?_ (by simp <;> omega) _) | exact ext_trans (ext_alloc (ext_alloc (ext_alloc (ext_alloc (ext_refl _) _) _) _) _) hbL)
set_option maxHeartbeats 2000000 in
theorem l25Change_3 (r : R5) (id v day : Int) (w : World) (hs : stuB r = true) (hd : 0 ≤ day ∧ day ≤ 4000) (hv : 0 ≤ v ∧ v ≤ 365) :
 Calls Try.prog 152 #[r.val, .agg #[.int .i64 3, .int .i64 id, .int .i64 v], .int .i64 day] w fun e w' => e = .returned (.tuple #[(chgR r 3 v day).val, .bool (chgB r 3 day)]) ∧ Below w.heap.size w w' := by
 obtain ⟨q1, q2, q3, q4, q5⟩ := stu_bounds hs
 rw [show chgR r 3 v day = ⟨r.a, r.b, r.c + v, r.d, r.e⟩ from by simp [chgR], show chgB r 3 day = decide (day ≤ r.d) from by simp [chgB]]
 go_enter Try.func152, Try.ntmps152
 go_wp2
 go_region
 go_wp2
 refine bodyPost_ret (v := .tuple #[.agg #[.int .i64 r.a, .int .i64 r.b, .int .i64 (r.c + v), .int .i64 r.d, .int .i64 r.e], .bool (decide (day ≤ r.d))]) (by simp [results, Try.results152, go_sem, *]) rfl ⟨rfl, ?_⟩
 repeat (first | (with_reducible refine ext_set ?_ (by simp <;> omega) _) | (with_reducible refine ext_drew ?_) | exact ext_alloc (ext_alloc (ext_alloc (ext_alloc (ext_refl _) _) _) _) _)
set_option maxHeartbeats 2000000 in
theorem l25Change_4 (r : R5) (id v day : Int) (w : World) (hs : stuB r = true) (hd : 0 ≤ day ∧ day ≤ 4000) (hv : 0 ≤ v ∧ v ≤ 365) :
 Calls Try.prog 152 #[r.val, .agg #[.int .i64 4, .int .i64 id, .int .i64 v], .int .i64 day] w fun e w' => e = .returned (.tuple #[(chgR r 4 v day).val, .bool (chgB r 4 day)]) ∧ Below w.heap.size w w' := by
 obtain ⟨q1, q2, q3, q4, q5⟩ := stu_bounds hs
 have HP := Lib.hid (fun w => l25Passes_any r v w (by omega) (by omega))
 obtain ⟨R, hR⟩ : ∃ R, R = chgR r 4 v day := ⟨_, rfl⟩
 have hpb : (passB r v = true ∧ R = ⟨r.a, r.b + 1, 0, r.d, 0⟩) ∨ (passB r v = false ∧ R = ⟨r.a, r.b, r.c, r.d, r.e + 1⟩) := by
  rw [hR]
  rcases h : passB r v with _ | _
  · right; simp [chgR, h]
  · left; simp [chgR, h]
 rw [← hR]
 clear hR
 by_cases hdr : day ≤ r.d
 · have hdr' : decide (day ≤ r.d) = true := by simpa using hdr
   rw [show chgB r 4 day = decide (r.b < 10) from by simp [chgB, hdr]]
   rcases hpb with ⟨h1, rfl⟩ | ⟨h1, rfl⟩
   all_goals
    rw [h1] at HP
    clear h1
    go_enter Try.func152, Try.ntmps152
    go_wp2_with fail
    refine (HP.out _).mono ?_
    rintro e w2 ⟨rfl, hb2⟩
    obtain ⟨hc2, hf2⟩ := bcell hb2
    have y0 : w.heap.size + 1 + 1 + 1 < w2.heap.size := by (have := hb2.size; simp at this; omega)
    have y1 : w.heap.size + 1 + 1 < w2.heap.size := by omega
    have y2 : w.heap.size + 1 < w2.heap.size := by omega
    have y3 : w.heap.size < w2.heap.size := by omega
    have b2 := Lib.hid (ext_trans (ext_alloc (ext_alloc (ext_alloc (ext_alloc (ext_refl w) _) _) _) _) hb2)
    clear hb2
    go_wp2
    go_region
    go_wp2
   · refine bodyPost_ret (v := .tuple #[.agg #[.int .i64 r.a, .int .i64 (r.b + 1), .int .i64 0, .int .i64 r.d, .int .i64 0], .bool (decide (r.b < 10))]) (by simp [results, Try.results152, go_sem, *]) rfl ⟨rfl, ?_⟩
     repeat (first | (with_reducible refine ext_set ?_ (by simp <;> omega) _) | (with_reducible refine ext_drew ?_) | (with_reducible exact b2.out))
   · refine bodyPost_ret (v := .tuple #[.agg #[.int .i64 r.a, .int .i64 r.b, .int .i64 r.c, .int .i64 r.d, .int .i64 (r.e + 1)], .bool (decide (r.b < 10))]) (by simp [results, Try.results152, go_sem, *]) rfl ⟨rfl, ?_⟩
     repeat (first | (with_reducible refine ext_set ?_ (by simp <;> omega) _) | (with_reducible refine ext_drew ?_) | (with_reducible exact b2.out))
 · have hdr' : decide (day ≤ r.d) = false := by simpa using hdr
   rw [show chgB r 4 day = false from by simp [chgB, hdr]]
   rcases hpb with ⟨h1, rfl⟩ | ⟨h1, rfl⟩
   all_goals
    rw [h1] at HP
    clear h1
    go_enter Try.func152, Try.ntmps152
    go_wp2_with fail
    refine (HP.out _).mono ?_
    rintro e w2 ⟨rfl, hb2⟩
    obtain ⟨hc2, hf2⟩ := bcell hb2
    have y0 : w.heap.size + 1 + 1 + 1 < w2.heap.size := by (have := hb2.size; simp at this; omega)
    have y1 : w.heap.size + 1 + 1 < w2.heap.size := by omega
    have y2 : w.heap.size + 1 < w2.heap.size := by omega
    have y3 : w.heap.size < w2.heap.size := by omega
    have b2 := Lib.hid (ext_trans (ext_alloc (ext_alloc (ext_alloc (ext_alloc (ext_refl w) _) _) _) _) hb2)
    clear hb2
    go_wp2
    go_region
    go_wp2
   · refine bodyPost_ret (v := .tuple #[.agg #[.int .i64 r.a, .int .i64 (r.b + 1), .int .i64 0, .int .i64 r.d, .int .i64 0], .bool (false)]) (by simp [results, Try.results152, go_sem, *]) rfl ⟨rfl, ?_⟩
     repeat (first | (with_reducible refine ext_set ?_ (by simp <;> omega) _) | (with_reducible refine ext_drew ?_) | (with_reducible exact b2.out))
   · refine bodyPost_ret (v := .tuple #[.agg #[.int .i64 r.a, .int .i64 r.b, .int .i64 r.c, .int .i64 r.d, .int .i64 (r.e + 1)], .bool (false)]) (by simp [results, Try.results152, go_sem, *]) rfl ⟨rfl, ?_⟩
     repeat (first | (with_reducible refine ext_set ?_ (by simp <;> omega) _) | (with_reducible refine ext_drew ?_) | (with_reducible exact b2.out))
end Go.Proofs.Ytclihlihaigddaa
namespace Go.Proofs.Ytclihlihaigddaa
open Go.RowKit
set_option linter.unusedVariables false
set_option linter.unusedSimpArgs false
theorem wp_append_none {P : Program} {w : World} {o : Oper} {a : Act} {K : Act → World → Prop} {Q : Exit → Act → World → Prop} (s x : Operand) (t : TypeId)
 (ho : o.op = .call { callee := .builtin .append, args := #[s, x], argTypes := #[t, t] }) (base : Nat) (e : TypeId) (i : TypeInfo) (size : Nat) (ht : P.underlying t = some (.slice e)) (hi : P.info? e = some i)
 (v : Value) (n : Nat) (xs : List Value) (hs : a.eval s = v) (hown : w.ownsRow base e size v n xs) (hx : a.eval x = .slice none 0 0) (h : K (a.put o.dst v) w) : o.wp P a w K Q := by
 have hr := run_append_owned_none (P := P) w base t o.type e i size ht hi v n xs hown
 unfold Oper.wp execOp
 simp only [ho, resolve, invoke, builtin, Sem.run_bind, Sem.run_pure, Result.andThen_ok, List.map_toArray, List.map_cons, List.map_nil, hs, hx, hr]
 exact h
theorem step_app {P : Program} {w : World} {ops : Array Oper} {o : Oper} {a : Act} {K : Act → World → Prop} {Q : Exit → Act → World → Prop} {E : Prop} (hgd : o.guard = none) (s x : Operand) (t : TypeId)
 (ho : o.op = .call { callee := .builtin .append, args := #[s, x], argTypes := #[t, t] })
 (e : TypeId) (i : TypeInfo) (z : Value) (size bytes : Nat) (ht : P.underlying t = some (.slice e)) (hi : P.info? e = some i) (hz : i.zero = some z)
 (hsize : i.size = size) (hby : i.bytes = bytes) (hzs : z.cells.size = size) (hsz : 0 < size)
 (wr : World) (hbl : Below wr.heap.size wr w) (v : Value) (n : Nat) (xs : List Value) (hs : a.eval s = v) (hown : w.ownsRow wr.heap.size e size v n xs)
 (ao : Option Addr) (m c : Nat) (news : List Value) (hx : a.eval x = .slice ao m c) (hl : news.length = m * size) (hnone : ao = none → m = 0 ∧ c = 0) (hnews : ∀ ad, ao = some ad → ∀ j u, news[j]? = some u → w.cell? (ad.add j) = some u) (h1 : ∀ u ∈ news, u.oneCell' = true)
 (h63 : n + m ≤ maxLen) (hbytes : (n + m) * bytes ≤ 140737488355328)
 (h : ∀ v' w', w'.ownsRow wr.heap.size e size v' (n + m) (xs ++ news) → Below wr.heap.size wr w' → w.grownBy w' v.ownBlock → K (a.put o.dst v') w') :
 if Region.wanted o (yielded ops a.tmps) = true then Oper.wp P o a w K Q else E := by
 rw [if_pos (by simp [Region.wanted, hgd])]
 cases ao with
 | some ad =>
   exact wp_append_own w s x t ho wr.heap.size e i z size bytes ht hi hz hsize hby hzs hsz v n xs hs hown ad m c news hx hl (hnews ad rfl) h1 h63 hbytes hbl.size (fun v' w' a b _ => h v' w' a (below_grown' hown (Nat.le_refl _) hbl b) b)
 | none =>
   obtain ⟨rfl, rfl⟩ := hnone rfl
   obtain rfl : news = [] := List.eq_nil_of_length_eq_zero (by rw [hl]; simp)
   exact wp_append_none s x t ho wr.heap.size e i size ht hi v n xs hs hown hx (h v w (by simpa using hown) hbl (World.grownBy.refl _ _))
theorem own_fresh {w wr : World} (hb : wr.heap.size ≤ w.heap.size) (E size : Nat) : (w.alloc (.cells #[] E)).ownsRow wr.heap.size E size (.slice (some ⟨w.heap.size, 0, none⟩) 0 0) 0 [] := own_base (own_lit0 w E size) hb
/-- the cells of a slice that is cut out of another, behind a place -/
theorem cut_cells {w wr : World} {A : Option Addr} {n : Nat} {l : List R5} (h : Reads wr wr.heap.size 5 A n (rowsV l)) (hb : Below wr.heap.size wr w) {i : Nat} (hi : i ≤ n) (ad : Addr) (had : i < n → ∀ b o, A = some ⟨b, o, none⟩ → ad = ⟨b, o + i * 5, none⟩) :
 ∀ j u, (rowsV (l.drop i))[j]? = some u → w.cell? (ad.add j) = some u := by
 intro j u hj
 have hl := rows_len h
 have hlt := (List.getElem?_eq_some_iff.1 hj).1
 rw [rowsV_len, List.length_drop, hl] at hlt
 have hin : i < n := by omega
 obtain ⟨b, o, hA, hbb, hc⟩ := h.2 (by omega)
 rw [had hin b o hA, add_flat]
 have e1 : rowsV l = rowsV (l.take i) ++ rowsV (l.drop i) := by rw [← rowsV_app, List.take_append_drop]
 have hlen : (rowsV (l.take i)).length = i * 5 := by rw [rowsV_len, List.length_take, hl, Nat.min_eq_left hi]
 refine (hb.cell (p := ⟨b, o + i * 5 + j, none⟩) hbb).trans ?_
 rw [show o + i * 5 + j = o + (i * 5 + j) from by omega]
 refine hc _ _ ?_
 rw [e1, List.getElem?_append_right (by omega), hlen, show i * 5 + j - i * 5 = j from by omega, hj]
/-- the cells of a slice's head -/
theorem head_cells {w wr : World} {A : Option Addr} {n : Nat} {l : List R5} (h : Reads wr wr.heap.size 5 A n (rowsV l)) (hb : Below wr.heap.size wr w) {i : Nat} (hi : i ≤ n) (ad : Addr) (had : A = some ad) :
 ∀ j u, (rowsV (l.take i))[j]? = some u → w.cell? (ad.add j) = some u := by
 intro j u hj
 have hl := rows_len h
 have hlt := (List.getElem?_eq_some_iff.1 hj).1
 have hlen : (rowsV (l.take i)).length = i * 5 := by rw [rowsV_len, List.length_take, hl, Nat.min_eq_left hi]
 obtain ⟨b, o, hA, hbb, hc⟩ := h.2 (by omega)
 rw [hA] at had
 injection had with had
 subst had
 rw [add_flat]
 have e1 : rowsV l = rowsV (l.take i) ++ rowsV (l.drop i) := by rw [← rowsV_app, List.take_append_drop]
 refine (hb.cell (p := ⟨b, o + j, none⟩) hbb).trans (hc _ _ ?_)
 rw [e1, List.getElem?_append_left hlt, hj]
theorem ite_map_none {P : Prop} [Decidable P] {A : Option Addr} {f : Addr → Addr} (e : (if P then A else Option.map f A) = none) : A = none := by
 split at e
 · exact e
 · simpa using e
end Go.Proofs.Ytclihlihaigddaa
