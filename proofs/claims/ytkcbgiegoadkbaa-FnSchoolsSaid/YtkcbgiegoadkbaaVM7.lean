/- The reference makes a step, whole; StepSchool: program and reference. -/
import Derived.Test.YtkcbgiegoadkbaaVM6
import Derived.Test.YtkcbgiegoadkbaaVScVg
import Derived.Test.YtkcbgiegoadkbaaVScVh
import Derived.Test.YtkcbgiegoadkbaaVScVi
import Derived.Test.YtkcbgiegoadkbaaVScVj
import Derived.Test.YtkcbgiegoadkbaaVScVb
import Derived.Test.YtkcbgiegoadkbaaVM5
namespace Go.Proofs.Ytkcbgiegoadkbaa
open Go.RowKit
set_option linter.unusedVariables false
set_option linter.unusedSimpArgs false
set_option maxRecDepth 100000 in
set_option maxHeartbeats 4000000 in
theorem l25Make_far (day pa le id v : Int) (A : Option Addr) (n c : Nat) (l : List R5) (w : World) (hn : n ≤ 8) (hnc : n ≤ c) (hA : SlOk A n c) (h : Reads w w.heap.size 5 A n (rowsV l)) (hv : 4000 - day < v) (hday : 0 ≤ day ∧ day ≤ 4000) :
 Calls Try.prog 23 #[schV day A n c pa le, .agg #[.int .i64 1, .int .i64 id, .int .i64 v]] w (RetMake none w) := by
 have hgt : decide (4000 - day < v) = true := by simpa using hv
 have H := Lib.hid h
 have HL := Lib.hid (rows_len h)
 have HA := Lib.hid (fun w h => l25Own_any day pa le A n c l w (by omega) hA h)
 have HF := Lib.hid (fun (w : World) h => l25Find_any day pa le id A n c l w (by omega) h)
 obtain ⟨zf, hzf⟩ : ∃ zf, findI l id = zf := ⟨_, rfl⟩
 rw [hzf] at HF
 clear hzf
 clear h
 go_enter Try.func23, Try.ntmps23
 go_wp2_with fail
 refine (HA.out _ ((H.out.ext (ext_alloc (ext_alloc (ext_alloc (ext_refl _) _) _) _) (Nat.le_refl _)).more (by simp; omega))).mono ?_
 rintro e w1 ⟨A1, c1, rfl, hown, hb1⟩
 have z0 : w.heap.size + 1 + 1 < w1.heap.size := by (have := hb1.size; simp at this; omega)
 have z1 : w.heap.size + 1 < w1.heap.size := by omega
 have z2 : w.heap.size < w1.heap.size := by omega
 have BX : Hid (Blk w1 w.heap.size 26 #[.int .i64 day, .slice A n c, .int .i64 pa, .int .i64 le]) := Lib.hid (((Blk.new w _ _).ext (ext_alloc (ext_alloc (ext_refl _) _) _)).ext hb1)
 have BY : Hid (Blk w1 (w.heap.size + 1) 28 #[.int .i64 1, .int .i64 id, .int .i64 v]) := Lib.hid (by
  have := ((Blk.new (w.alloc (.cells #[.int .i64 day, .slice A n c, .int .i64 pa, .int .i64 le] 26)) #[.int .i64 1, .int .i64 id, .int .i64 v] 28).ext (ext_alloc (ext_refl _) (.cells #[.int .i64 0, .slice none 0 0, .int .i64 0, .int .i64 0] 26))).ext hb1
  simpa using this)
 have BR : Hid (Blk w1 (w.heap.size + 1 + 1) 26 #[.int .i64 0, .slice none 0 0, .int .i64 0, .int .i64 0]) := Lib.hid (by
  have := (Blk.new ((w.alloc (.cells #[.int .i64 day, .slice A n c, .int .i64 pa, .int .i64 le] 26)).alloc (.cells #[.int .i64 1, .int .i64 id, .int .i64 v] 28)) #[.int .i64 0, .slice none 0 0, .int .i64 0, .int .i64 0] 26).ext hb1
  simpa using this)
 have hbw := Lib.hid (ext_trans (ext_alloc (ext_alloc (ext_alloc (ext_refl w) _) _) _) hb1)
 have HO : Hid (w1.ownsRow w.heap.size 55 5 (.slice A1 n c1) n (rowsV l)) := Lib.hid (own_base hown (by simp; omega))
 clear hb1 hown
 obtain ⟨x0, x1, x2, x3⟩ := BX.out.q4
 obtain ⟨fx0, fx1, fx2, fx3⟩ := BX.out.z4
 obtain ⟨y0, y1, y2⟩ := BY.out.q3
 obtain ⟨fy0, fy1, fy2⟩ := BY.out.z3
 obtain ⟨r0, r1, r2, r3⟩ := BR.out.q4
 obtain ⟨fr0, fr1, fr2, fr3⟩ := BR.out.z4
 go_wp2_with fail
 refine (HF.out _ (((H.out.ext hbw.out (Nat.le_refl _)).ext (ext_alloc (ext_refl _) _) (by omega)).more (by simp; omega))).mono ?_
 rintro e w5 ⟨rfl, hb5⟩
 have z5 : w1.heap.size < w5.heap.size := by (have := hb5.size; simp at this; omega)
 have z50 : w.heap.size + 1 + 1 < w5.heap.size := by omega
 have z51 : w.heap.size + 1 < w5.heap.size := by omega
 have z52 : w.heap.size < w5.heap.size := by omega
 have b5 := Lib.hid (ext_trans hbw.out (ext_trans (ext_alloc (ext_refl _) _) hb5))
 have O5 := Lib.hid (own_ext HO.out (ext_trans (ext_alloc (ext_refl _) _) hb5))
 have GX5 := Lib.hid (BX.out.ext (ext_trans (ext_alloc (ext_refl _) _) hb5))
 have GY5 := Lib.hid (BY.out.ext (ext_trans (ext_alloc (ext_refl _) _) hb5))
 have GR5 := Lib.hid (BR.out.ext (ext_trans (ext_alloc (ext_refl _) _) hb5))
 have GT5 : Hid (Blk w5 w1.heap.size 26 #[.int .i64 day, .slice A1 n c1, .int .i64 pa, .int .i64 le]) := Lib.hid ((Blk.new w1 _ _).ext hb5)
 clear hb5 x0 x1 x2 x3 fx0 fx1 fx2 fx3 y0 y1 y2 fy0 fy1 fy2 r0 r1 r2 r3 fr0 fr1 fr2 fr3
 obtain ⟨p0, p1, p2, p3⟩ := GX5.out.q4
 obtain ⟨fp0, fp1, fp2, fp3⟩ := GX5.out.z4
 obtain ⟨m0, m1, m2⟩ := GY5.out.q3
 obtain ⟨fm0, fm1, fm2⟩ := GY5.out.z3
 obtain ⟨s0, s1, s2, s3⟩ := GR5.out.q4
 obtain ⟨fs0, fs1, fs2, fs3⟩ := GR5.out.z4
 obtain ⟨t0, t1, t2, t3⟩ := GT5.out.q4
 obtain ⟨ft0, ft1, ft2, ft3⟩ := GT5.out.z4
 go_wp2
 refine bodyPost_ret (v := .tuple #[schV day A1 n c1 pa le, .bool false]) (by simp [results, Try.results23, go_sem, *]) rfl ?_
 have hne := own_nb O5.out GR5.out (by decide)
 refine ⟨A1, c1, day, pa, le, l, ?_, ?_, (fun x hx => by cases hx), ?_⟩
 · rw [HL.out]; rfl
 · rw [HL.out]
   iterate 4 refine own_set_nb ?_ hne _
   exact O5.out
 · iterate 4 refine ext_set ?_ (by show w.heap.size ≤ w.heap.size + 1 + 1; omega) _
   exact b5.out

theorem teach3 {day pa le : Int} {l : List R5} {i : Nat} {r : R5} {v : Int} (hv : inB v 1 20 = true) : ((teach day pa le l i r 3 v).map fun q => (day, q.1, q.2.1, q.2.2)).filter (fun q => schB q.1 q.2.1 q.2.2.1 q.2.2.2) =
 if chgB r 3 day = true then (if schB day (l.set i (chgR r 3 v day)) pa le = true then some (day, l.set i (chgR r 3 v day), pa, le) else none) else none := by
 by_cases hd : r.d < day
 · simp [teach, hd, chgB, show ¬ day ≤ r.d by omega]
 · simp [teach, hd, hv, chgB, chgR, show day ≤ r.d by omega, Option.filter_some]
theorem teach5 {day pa le : Int} {l : List R5} {i : Nat} {r : R5} {v : Int} (hv : inB v 1 365 = true) : ((teach day pa le l i r 5 v).map fun q => (day, q.1, q.2.1, q.2.2)).filter (fun q => schB q.1 q.2.1 q.2.2.1 q.2.2.2) =
 if chgB r 5 day = true then (if schB day (l.set i (chgR r 5 v day)) pa le = true then some (day, l.set i (chgR r 5 v day), pa, le) else none) else none := by
 simp [teach, hv, chgB, chgR, Option.filter_some]
theorem teach4 {day pa le : Int} {l : List R5} {i : Nat} {r : R5} {v : Int} (hv : inB v 0 100 = true) (hs : stuB r = true) : ((teach day pa le l i r 4 v).map fun q => (day, q.1, q.2.1, q.2.2)).filter (fun q => schB q.1 q.2.1 q.2.2.1 q.2.2.2) =
 if chgB r 4 day = true then (if schB day (l.set i (chgR r 4 v day)) (if passB r v = true then pa + 1 else pa) le = true then some (day, l.set i (chgR r 4 v day), (if passB r v = true then pa + 1 else pa), le) else none) else none := by
 have hb := (stu_bounds hs).2.1
 by_cases hd : r.d < day
 · simp [teach, hd, chgB, show ¬ day ≤ r.d by omega]
 · by_cases h10 : r.b = 10
   · simp [teach, h10, chgB]
   · have hlt : r.b < 10 := by omega
     by_cases hp : 70 ≤ v ∧ 10 + 5 * r.b ≤ r.c
     · simp [teach, hd, h10, hv, hp, chgB, chgR, passB, hlt, show day ≤ r.d by omega, Option.filter_some]
     · have hpb : passB r v = false := by
        rw [Bool.eq_false_iff]; intro h; simp [passB] at h; exact hp h
       simp [teach, hd, h10, hv, hp, chgB, chgR, hpb, hlt, show day ≤ r.d by omega, Option.filter_some]
theorem teach6 {day pa le : Int} {l : List R5} {i : Nat} {r : R5} : ((teach day pa le l i r 6 0).map fun q => (day, q.1, q.2.1, q.2.2)).filter (fun q => schB q.1 q.2.1 q.2.2.1 q.2.2.2) =
 if schB day (l.eraseIdx i) pa (le + 1) = true then some (day, l.eraseIdx i, pa, le + 1) else none := by
 simp [teach, Option.filter_some]
theorem l25Make_any (day pa le k id v : Int) (A : Option Addr) (n c : Nat) (l : List R5) (w : World) (hnc : n ≤ c) (hA : SlOk A n c) (h : Reads w w.heap.size 5 A n (rowsV l)) (hs : schB day l pa le = true) (hok : stepOk l k id v = true) :
 Calls Try.prog 23 #[schV day A n c pa le, .agg #[.int .i64 k, .int .i64 id, .int .i64 v]] w (RetMake (stepS day pa le l k id v) w) := by
 have hn : n ≤ 8 := by have := schB_len hs; have := rows_len h; omega
 have hday := schB_day hs
 have hpl := schB_pa hs
 by_cases h1 : k = 1
 · subst h1
   have hv : id = 0 ∧ 1 ≤ v := by simpa [stepOk] using hok
   rw [stepS_1 hok]
   by_cases hf : v ≤ 4000 - day
   · exact l25Make_wait day pa le id v A n c l w hn hnc hA h hv.2 hday hf
   · rw [if_neg (by intro hh; have := schB_day hh; omega)]
     exact l25Make_far day pa le id v A n c l w hn hnc hA h (by omega) hday
 by_cases h2 : k = 2
 · subst h2
   rw [stepS_2 hok]
   exact l25Make_enrol day pa le id v A n c l w hn hnc hA h
 have h36 : k = 3 ∨ k = 4 ∨ k = 5 ∨ k = 6 := by
  by_cases h3 : k = 3
  · exact .inl h3
  by_cases h4 : k = 4
  · exact .inr (.inl h4)
  by_cases h5 : k = 5
  · exact .inr (.inr (.inl h5))
  · simp [stepOk, h1, h2, h3, h4, h5] at hok
    exact .inr (.inr (.inr hok.1.1))
 obtain ⟨i, r, hf, hr, _⟩ := stepOk_find hok h36
 have hst := schB_mem hs (List.mem_of_getElem? hr)
 rw [stepS_t h36 hf hr]
 rcases h36 with rfl | rfl | rfl | rfl
 · have hv : inB v 1 20 = true := by simp [stepOk] at hok; exact hok.2
   rw [teach3 hv]
   exact l25Make_3 day pa le id v A n c l w hn hnc hA h i r hf hr hst hday hpl.1 (inB_iff.1 hv)
 · have hv : inB v 0 100 = true := by simp [stepOk] at hok; exact hok.2
   rw [teach4 hv hst]
   rcases hp : passB r v with _ | _
   · simpa using l25Make_4f day pa le id v A n c l w hn hnc hA h i r hf hr hst hday hpl.1 (inB_iff.1 hv) hp
   · simpa using l25Make_4p day pa le id v A n c l w hn hnc hA h i r hf hr hst hday hpl.1 (inB_iff.1 hv) hp
 · have hv : inB v 1 365 = true := by simp [stepOk] at hok; exact hok.2
   rw [teach5 hv]
   exact l25Make_5 day pa le id v A n c l w hn hnc hA h i r hf hr hst hday hpl.1 (inB_iff.1 hv)
 · have hv : v = 0 := by simp [stepOk] at hok; exact hok.2
   subst hv
   rw [teach6]
   exact l25Make_6 day pa le id 0 A n c l w hn hnc hA h i r hf hr hpl.2
end Go.Proofs.Ytkcbgiegoadkbaa
namespace Go.Proofs.Ytkcbgiegoadkbaa
open Go.RowKit
set_option linter.unusedVariables false
set_option linter.unusedSimpArgs false
def RetStp (day pa le : Int) (l : List R5) (k id v : Int) (w : World) (e : Ending) (w' : World) : Prop := RetSch (stpB day pa le l k id v) w e w'
set_option maxRecDepth 100000 in
set_option maxHeartbeats 4000000 in
theorem implStep_any (day pa le k id v : Int) (A : Option Addr) (n c : Nat) (l : List R5) (w : World) (hn : n ≤ 1048576) (hA : SlOk A n c) (h : Reads w w.heap.size 5 A n (rowsV l)) (hv2 : v ≤ 9223372036854775807) :
 Calls Try.prog 6 #[schV day A n c pa le, .agg #[.int .i64 k, .int .i64 id, .int .i64 v]] w (RetStp day pa le l k id v w) := by
 have HI := Lib.hid (fun (w : World) h => isSchool_any day pa le A n c l w hn h)
 have H := Lib.hid h
 unfold RetStp stpB
 clear h
 rcases hs : schB day l pa le with _ | _
 · rw [hs] at HI
   clear hs
   rw [if_neg (by simp)]
   go_enter Try.func6, Try.ntmps6
   go_wp2_with fail
   refine (HI.out _ ((H.out.ext (ext_alloc (ext_alloc (ext_alloc (ext_refl _) _) _) _) (Nat.le_refl _)).more (by simp; omega))).mono ?_
   rintro e w1 ⟨rfl, hb1⟩
   obtain ⟨hc1, hf1⟩ := bcell hb1
   have z0 : w.heap.size + 1 + 1 < w1.heap.size := by (have := hb1.size; simp at this; omega)
   have b1 := Lib.hid (ext_trans (ext_alloc (ext_alloc (ext_alloc (ext_refl w) _) _) _) hb1)
   clear hb1
   go_wp2
   refine bodyPost_ret (v := .tuple #[schV 0 none 0 0 0 0, .bool false]) (by simp [results, Try.results6, go_sem, *]) rfl ?_
   refine ⟨rfl, ?_⟩
   repeat (first | (with_reducible exact b1.out) | (with_reducible refine ext_set ?_ (by simp <;> omega) _))
 · rw [hs] at HI
   have HS := Lib.hid (fun (w : World) h => stepped_any day pa le k id v A n c l w hA h hs hv2)
   rw [if_pos rfl]
   obtain ⟨O, hO⟩ : ∃ O, stepS day pa le l k id v = O := ⟨_, rfl⟩
   rw [hO] at HS ⊢
   clear hs hO
   go_enter Try.func6, Try.ntmps6
   go_wp2_with fail
   refine (HI.out _ ((H.out.ext (ext_alloc (ext_alloc (ext_alloc (ext_refl _) _) _) _) (Nat.le_refl _)).more (by simp; omega))).mono ?_
   rintro e w1 ⟨rfl, hb1⟩
   have z0 : w.heap.size + 1 + 1 < w1.heap.size := by (have := hb1.size; simp at this; omega)
   have z1 : w.heap.size + 1 < w1.heap.size := by omega
   have z2 : w.heap.size < w1.heap.size := by omega
   have b1 := Lib.hid (ext_trans (ext_alloc (ext_alloc (ext_alloc (ext_refl w) _) _) _) hb1)
   have HB1 := Lib.hid hb1
   obtain ⟨hc1, hf1⟩ := bcell hb1
   clear hb1
   go_wp2_with fail
   refine (HS.out _ ((H.out.ext b1.out (Nat.le_refl _)).more (by omega))).mono ?_
   rcases O with _ | ⟨D, L, P, Q⟩
   · rintro e w2 ⟨rfl, hb2⟩
     obtain ⟨hc2, hf2⟩ := bcell hb2
     have y0 : w.heap.size + 1 + 1 < w2.heap.size := by (have := hb2.size; omega)
     have b2 := Lib.hid (ext_trans b1.out hb2)
     clear hb2
     go_wp2
     refine bodyPost_ret (v := .tuple #[schV 0 none 0 0 0 0, .bool false]) (by simp [results, Try.results6, go_sem, *]) rfl ?_
     refine ⟨rfl, ?_⟩
     repeat (first | (with_reducible exact b2.out) | (with_reducible refine ext_set ?_ (by simp <;> omega) _))
   · rintro e w2 ⟨A2, c2, rfl, ho2, hb2⟩
     obtain ⟨hc2, hf2⟩ := bcell hb2
     have y0 : w.heap.size + 1 + 1 < w2.heap.size := by (have := hb2.size; omega)
     have b2 := Lib.hid (ext_trans b1.out hb2)
     have O2 := Lib.hid ho2
     clear hb2 ho2
     go_wp2
     refine bodyPost_ret (v := .tuple #[schV D A2 L.length c2 P Q, .bool true]) (by simp [results, Try.results6, go_sem, *]) rfl ?_
     refine ⟨A2, c2, rfl, own_base (base := w1.heap.size) ?_ (by omega), ?_⟩
     · repeat (first | (with_reducible exact O2.out) | (with_reducible refine own_set ?_ (by show w.heap.size + 1 + 1 < w1.heap.size; omega) _))
     · repeat (first | (with_reducible exact b2.out) | (with_reducible refine ext_set ?_ (by simp <;> omega) _))
end Go.Proofs.Ytkcbgiegoadkbaa
namespace Go.Proofs.Ytkcbgiegoadkbaa
open Go.RowKit
set_option linter.unusedVariables false
set_option linter.unusedSimpArgs false
set_option maxRecDepth 100000 in
set_option maxHeartbeats 4000000 in
theorem specStep_any (day pa le k id v : Int) (A : Option Addr) (n c : Nat) (l : List R5) (w : World) (hn : n ≤ 1048576) (hnc : n ≤ c) (hA : SlOk A n c) (h : Reads w w.heap.size 5 A n (rowsV l)) :
 Calls Try.prog 7 #[schV day A n c pa le, .agg #[.int .i64 k, .int .i64 id, .int .i64 v]] w (RetStp day pa le l k id v w) := by
 have HI := Lib.hid (fun (w : World) h => l25Good_any day pa le A n c l w hn h)
 have HT := Lib.hid (fun (w : World) h => l25Step_any day pa le k id v A n c l w hn h)
 have H := Lib.hid h
 unfold RetStp stpB
 clear h
 rcases hs : schB day l pa le with _ | _
 · rw [hs] at HI
   clear hs HT
   rw [if_neg (by simp)]
   go_enter Try.func7, Try.ntmps7
   go_wp2_with fail
   refine (HI.out _ ((H.out.ext (ext_alloc (ext_alloc (ext_alloc (ext_refl _) _) _) _) (Nat.le_refl _)).more (by simp; omega))).mono ?_
   rintro e w1 ⟨rfl, hb1⟩
   obtain ⟨hc1, hf1⟩ := bcell hb1
   have z0 : w.heap.size + 1 + 1 < w1.heap.size := by (have := hb1.size; simp at this; omega)
   have b1 := Lib.hid (ext_trans (ext_alloc (ext_alloc (ext_alloc (ext_refl w) _) _) _) hb1)
   clear hb1
   go_wp2
   refine bodyPost_ret (v := .tuple #[schV 0 none 0 0 0 0, .bool false]) (by simp [results, Try.results7, go_sem, *]) rfl ?_
   refine ⟨rfl, ?_⟩
   repeat (first | (with_reducible exact b1.out) | (with_reducible refine ext_set ?_ (by simp <;> omega) _))
 rw [hs] at HI
 rw [if_pos rfl]
 rcases hk : stepOk l k id v with _ | _
 · rw [stepS_no hk]
   rw [hk] at HT
   clear hk hs
   go_enter Try.func7, Try.ntmps7
   go_wp2_with fail
   refine (HI.out _ ((H.out.ext (ext_alloc (ext_alloc (ext_alloc (ext_refl _) _) _) _) (Nat.le_refl _)).more (by simp; omega))).mono ?_
   rintro e w1 ⟨rfl, hb1⟩
   obtain ⟨hc1, hf1⟩ := bcell hb1
   have z0 : w.heap.size + 1 + 1 < w1.heap.size := by (have := hb1.size; simp at this; omega)
   have z1 : w.heap.size + 1 < w1.heap.size := by omega
   have z2 : w.heap.size < w1.heap.size := by omega
   have b1 := Lib.hid (ext_trans (ext_alloc (ext_alloc (ext_alloc (ext_refl w) _) _) _) hb1)
   clear hb1
   go_wp2_with fail
   refine (HT.out _ ((H.out.ext b1.out (Nat.le_refl _)).more (by omega))).mono ?_
   rintro e w2 ⟨rfl, hb2⟩
   obtain ⟨hc2, hf2⟩ := bcell hb2
   have y0 : w.heap.size + 1 + 1 < w2.heap.size := by (have := hb2.size; omega)
   have b2 := Lib.hid (ext_trans b1.out hb2)
   clear hb2
   go_wp2
   refine bodyPost_ret (v := .tuple #[schV 0 none 0 0 0 0, .bool false]) (by simp [results, Try.results7, go_sem, *]) rfl ?_
   refine ⟨rfl, ?_⟩
   repeat (first | (with_reducible exact b2.out) | (with_reducible refine ext_set ?_ (by simp <;> omega) _))
 · have HM := Lib.hid (fun (w : World) h => l25Make_any day pa le k id v A n c l w hnc hA h hs hk)
   rw [hk] at HT
   obtain ⟨O, hO⟩ : ∃ O, stepS day pa le l k id v = O := ⟨_, rfl⟩
   rw [hO] at HM ⊢
   clear hs hO hk
   go_enter Try.func7, Try.ntmps7
   go_wp2_with fail
   refine (HI.out _ ((H.out.ext (ext_alloc (ext_alloc (ext_alloc (ext_refl _) _) _) _) (Nat.le_refl _)).more (by simp; omega))).mono ?_
   rintro e w1 ⟨rfl, hb1⟩
   obtain ⟨hc1, hf1⟩ := bcell hb1
   have z0 : w.heap.size + 1 + 1 < w1.heap.size := by (have := hb1.size; simp at this; omega)
   have z1 : w.heap.size + 1 < w1.heap.size := by omega
   have z2 : w.heap.size < w1.heap.size := by omega
   have b1 := Lib.hid (ext_trans (ext_alloc (ext_alloc (ext_alloc (ext_refl w) _) _) _) hb1)
   clear hb1
   go_wp2_with fail
   refine (HT.out _ ((H.out.ext b1.out (Nat.le_refl _)).more (by omega))).mono ?_
   rintro e w2 ⟨rfl, hb2⟩
   obtain ⟨hc2, hf2⟩ := bcell hb2
   have y0 : w.heap.size + 1 + 1 < w2.heap.size := by (have := hb2.size; omega)
   have y1 : w.heap.size + 1 < w2.heap.size := by omega
   have y2 : w.heap.size < w2.heap.size := by omega
   have b2 := Lib.hid (ext_trans b1.out hb2)
   clear hb2
   go_wp2_with fail
   refine (HM.out _ ((H.out.ext b2.out (Nat.le_refl _)).more (by omega))).mono ?_
   rintro e w3 ⟨A3, c3, D, P, Q, L, rfl, ho3, hx3, hb3⟩
   obtain ⟨hc3, hf3⟩ := bcell hb3
   have x0 : w.heap.size + 1 + 1 < w3.heap.size := by (have := hb3.size; omega)
   have b3 := Lib.hid (ext_trans b2.out hb3)
   have O3 := Lib.hid ho3
   have HX3 := Lib.hid hx3
   clear hb3 ho3 hx3
   rcases O with _ | ⟨D', L', P', Q'⟩
   · have hsome : (none : Option Sch4).isSome = false := rfl
     go_wp2
     refine bodyPost_ret (v := .tuple #[schV 0 none 0 0 0 0, .bool false]) (by simp [results, Try.results7, go_sem, *]) rfl ?_
     refine ⟨rfl, ?_⟩
     repeat (first | (with_reducible exact b3.out) | (with_reducible refine ext_set ?_ (by simp <;> omega) _) | (with_reducible refine ext_alloc ?_ _))
   · have he := HX3.out _ rfl
     injection he with h1 he
     injection he with h2 he
     injection he with h3 h4
     subst h1 h2 h3 h4
     clear HX3
     go_wp2
     refine bodyPost_ret (v := .tuple #[schV D' A3 L'.length c3 P' Q', .bool true]) (by simp [results, Try.results7, go_sem, *]) rfl ?_
     refine ⟨A3, c3, rfl, own_base (base := w2.heap.size) ?_ (by omega), ?_⟩
     · repeat (first | (with_reducible exact O3.out) | (with_reducible refine own_set ?_ (by show w.heap.size + 1 + 1 < w2.heap.size; omega) _) | (with_reducible refine World.ownsRow.alloc ?_ _))
     · repeat (first | (with_reducible exact b3.out) | (with_reducible refine ext_set ?_ (by simp <;> omega) _) | (with_reducible refine ext_alloc ?_ _))
end Go.Proofs.Ytkcbgiegoadkbaa
namespace Go.Proofs.Ytkcbgiegoadkbaa
open Go.RowKit
set_option linter.unusedVariables false
set_option linter.unusedSimpArgs false
def oD (o : Option Sch4) : Int := match o with | none => 0 | some (d, _, _, _) => d
def oL (o : Option Sch4) : List R5 := match o with | none => [] | some (_, l, _, _) => l
def oP (o : Option Sch4) : Int := match o with | none => 0 | some (_, _, p, _) => p
def oQ (o : Option Sch4) : Int := match o with | none => 0 | some (_, _, _, q) => q
theorem own_cap2 {w : World} {base e size n c : Nat} {A : Option Addr} {xs : List Value} (h : w.ownsRow base e size (.slice A n c) n xs) : n ≤ c := by
 rcases h.2 with ⟨h', _⟩ | ⟨g', cap', cur, h', _, hg, hnc, _, _, _⟩
 · injection h' with _ h1 h2; omega
 · injection h' with _ h1 h2; omega
/-- a school of the call's own and a bool come back, whatever the answer -/
def RetUni (D P Q : Int) (N : Nat) (L : List R5) (ok : Bool) (w : World) (e : Ending) (w' : World) : Prop :=
 ∃ A c, e = .returned (.tuple #[schV D A N c P Q, .bool ok]) ∧ w'.ownsRow w.heap.size 55 5 (.slice A N c) N (rowsV L) ∧ Below w.heap.size w w'
theorem retUni (o : Option Sch4) (w : World) (e : Ending) (w' : World) (h : RetSch o w e w') : RetUni (oD o) (oP o) (oQ o) (oL o).length (oL o) o.isSome w e w' := by
 rcases o with _ | ⟨d, l, p, q⟩
 · exact ⟨none, 0, h.1, World.ownsRow_nil _ _ _ _, h.2⟩
 · exact h
theorem oL_len (day pa le : Int) (l : List R5) (k id v : Int) : (oL (stpB day pa le l k id v)).length ≤ 8 := by
 unfold stpB
 split
 · unfold stepS
   rcases h : tryS day pa le l k id v with _ | q
   · simp [oL]
   · rw [Option.filter_some]
     split
     · rename_i hs; exact schB_len hs
     · simp [oL]
 · simp [oL]
theorem own_cap3 {w : World} {base e size n c : Nat} {A : Option Addr} {xs : List Value} (h : w.ownsRow base e size (.slice A n c) n xs) : n ≤ c := own_cap2 h
end Go.Proofs.Ytkcbgiegoadkbaa
namespace Go.Proofs.Ytkcbgiegoadkbaa
open Go.RowKit
set_option linter.unusedVariables false
set_option linter.unusedSimpArgs false
theorem stpB_parts {day pa le : Int} {l : List R5} {k id v : Int} {s : Sch4} (h : stpB day pa le l k id v = some s) : schB day l pa le = true ∧ tryS day pa le l k id v = some s ∧ schB s.1 s.2.1 s.2.2.1 s.2.2.2 = true := by
 unfold stpB at h
 split at h
 · rename_i hs
   unfold stepS at h
   rcases ht : tryS day pa le l k id v with _ | y
   · rw [ht] at h; cases h
   · rw [ht, Option.filter_some] at h
     split at h
     · rename_i h2; injection h with h; subst h; exact ⟨hs, rfl, h2⟩
     · cases h
 · cases h
theorem try_kind {day pa le : Int} {l : List R5} {k id v : Int} {D P Q : Int} {L : List R5} (h : tryS day pa le l k id v = some (D, L, P, Q)) :
 (k = 1 ∧ D = day + v ∧ L = l ∧ P = pa ∧ Q = le) ∨ (k = 2 ∧ L = insS l id v day ∧ P = pa ∧ Q = le) ∨
 ((k = 3 ∨ k = 4 ∨ k = 5 ∨ k = 6) ∧ ∃ (i : Nat) (r : R5), findI l id = i ∧ l[i]? = some r ∧ r.a = id ∧ teach day pa le l i r k v = some (L, P, Q)) := by
 unfold tryS at h
 by_cases h1 : k = 1
 · rw [if_pos h1] at h
   split at h
   · cases h
   · simp only [Option.some.injEq, Prod.mk.injEq] at h
     exact .inl ⟨h1, h.1.symm, h.2.1.symm, h.2.2.1.symm, h.2.2.2.symm⟩
 rw [if_neg h1] at h
 by_cases h2 : k = 2
 · rw [if_pos h2] at h
   split at h
   · cases h
   · simp only [Option.some.injEq, Prod.mk.injEq] at h
     exact .inr (.inl ⟨h2, h.2.1.symm, h.2.2.1.symm, h.2.2.2.symm⟩)
 rw [if_neg h2] at h
 by_cases h3 : k = 3 ∨ k = 4 ∨ k = 5 ∨ k = 6
 · rw [if_pos h3] at h
   split at h
   · cases h
   · rcases findI_cases l id with ⟨e, _⟩ | ⟨i, r, e1, e2, e3, _⟩
     · omega
     · rw [e1] at h
       simp only [Int.toNat_natCast, e2] at h
       rcases ht : teach day pa le l i r k v with _ | ⟨L', P', Q'⟩
       · rw [ht] at h; cases h
       · rw [ht] at h
         simp only [Option.map_some, Option.some.injEq, Prod.mk.injEq] at h
         obtain ⟨_, g1, g2, g3⟩ := h
         subst g1 g2 g3
         exact .inr (.inr ⟨h3, i, r, e1, e2, e3, ht⟩)
 · rw [if_neg h3] at h
   cases h
theorem teach_kind {day pa le : Int} {l : List R5} {i : Nat} {r : R5} {k v : Int} {L : List R5} {P Q : Int} (hk : k = 3 ∨ k = 4 ∨ k = 5 ∨ k = 6) (hi : i < l.length) (h : teach day pa le l i r k v = some (L, P, Q)) :
 ((L.length : Int) + Q = (l.length : Int) + le) ∧ (P = pa ∨ (k = 4 ∧ 70 ≤ v ∧ 10 + 5 * r.b ≤ r.c ∧ r.b ≠ 10 ∧ P = pa + 1)) := by
 unfold teach at h
 rcases hk with rfl | rfl | rfl | rfl
 · rw [if_pos rfl] at h
   split at h
   · cases h
   · simp only [Option.some.injEq, Prod.mk.injEq] at h
     obtain ⟨h1, h2, h3⟩ := h
     subst h1 h2 h3
     exact ⟨by rw [List.length_set], .inl rfl⟩
 · rw [if_neg (by omega), if_pos rfl] at h
   split at h
   · cases h
   · rename_i hn
     split at h
     · rename_i hy
       simp only [Option.some.injEq, Prod.mk.injEq] at h
       obtain ⟨h1, h2, h3⟩ := h
       subst h1 h2 h3
       exact ⟨by rw [List.length_set], .inr ⟨rfl, hy.1, hy.2, fun e => hn (.inr (.inl e)), rfl⟩⟩
     · simp only [Option.some.injEq, Prod.mk.injEq] at h
       obtain ⟨h1, h2, h3⟩ := h
       subst h1 h2 h3
       exact ⟨by rw [List.length_set], .inl rfl⟩
 · rw [if_neg (by omega), if_neg (by omega), if_pos rfl] at h
   split at h
   · cases h
   · simp only [Option.some.injEq, Prod.mk.injEq] at h
     obtain ⟨h1, h2, h3⟩ := h
     subst h1 h2 h3
     exact ⟨by rw [List.length_set], .inl rfl⟩
 · rw [if_neg (by omega), if_neg (by omega), if_neg (by omega)] at h
   split at h
   · cases h
   · simp only [Option.some.injEq, Prod.mk.injEq] at h
     obtain ⟨h1, h2, h3⟩ := h
     subst h1 h2 h3
     refine ⟨?_, .inl rfl⟩
     rw [List.length_eraseIdx, if_pos hi]
     omega
/-- behind a step that is made: how many there are, and who went up -/
theorem step_facts {day pa le : Int} {l : List R5} {k id v : Int} {D P Q : Int} {L : List R5} (h : stpB day pa le l k id v = some (D, L, P, Q)) :
 schB D L P Q = true ∧ (pa < P → k = 4 ∧ 70 ≤ v ∧ hmO day pa le l id = some 0 ∧ P = pa + 1) ∧ (k ≠ 2 → (L.length : Int) + Q = (l.length : Int) + le) := by
 obtain ⟨hs, ht, hn⟩ := stpB_parts h
 refine ⟨hn, ?_⟩
 rcases try_kind ht with ⟨_, _, rfl, rfl, rfl⟩ | ⟨rfl, _, rfl, rfl⟩ | ⟨hk, i, r, e1, e2, e3, hte⟩
 · exact ⟨fun h => by omega, fun _ => rfl⟩
 · exact ⟨fun h => by omega, fun h => absurd rfl h⟩
 · have hi := (List.getElem?_eq_some_iff.1 e2).1
   obtain ⟨g1, g2⟩ := teach_kind hk hi hte
   refine ⟨fun hp => ?_, fun _ => g1⟩
   rcases g2 with g2 | ⟨g3, g4, g5, g6, g7⟩
   · omega
   · refine ⟨g3, g4, ?_, g7⟩
     rw [hm_hit hs e1 e2, if_neg g6, if_neg (by omega)]
theorem okTo_get {l : List R5} {n : Nat} (h : okTo l n = true) {k : Nat} (hk : k < n) : okAt l k = true := by
 rw [okTo, List.all_eq_true] at h
 exact h k (by simpa using hk)
theorem okAt_less {l : List R5} {k : Nat} {r s : R5} (h : okAt l (k + 1) = true) (hs : l[k]? = some s) (hr : l[k + 1]? = some r) : s.a < r.a := by
 simpa [okAt, hr, hs] using (show _ ∧ _ from by simpa [okAt, hr, hs] using h).2
theorem sch_okTo {day pa le : Int} {l : List R5} (h : schB day l pa le = true) : okTo l l.length = true := by
 simp only [schB, Bool.and_eq_true] at h
 exact h.2
theorem sorted_lt {l : List R5} (h : okTo l l.length = true) : ∀ (j i : Nat) (r s : R5), i < j → l[i]? = some s → l[j]? = some r → s.a < r.a := by
 intro j
 induction j with
 | zero => intro i r s hi; omega
 | succ j ih =>
   intro i r s hi hs hr
   have hj := (List.getElem?_eq_some_iff.1 hr).1
   obtain ⟨t, ht⟩ := list_split (l := l) (k := j) (by omega)
   have h1 := okAt_less (okTo_get h hj) ht hr
   by_cases e : i = j
   · subst e; rw [hs] at ht; injection ht with ht; rw [ht]; exact h1
   · have := ih i t s (by omega) hs ht; omega
theorem find_own {day pa le : Int} {l : List R5} (h : schB day l pa le = true) {i : Nat} {r : R5} (hr : l[i]? = some r) : findI l r.a = i := by
 have hs := sch_okTo h
 rcases findI_cases l r.a with ⟨_, h2⟩ | ⟨k, s, h1, h2, h3, _⟩
 · exact absurd rfl (h2 i r (List.getElem?_eq_some_iff.1 hr).1 hr)
 · rw [h1]
   rcases Nat.lt_trichotomy k i with hlt | rfl | hlt
   · have := sorted_lt hs i k r s hlt h2 hr; omega
   · rfl
   · have := sorted_lt hs k i s r hlt hr h2; omega
theorem okTo_set {l : List R5} {i : Nat} {r r' : R5} (h : okTo l l.length = true) (hr : l[i]? = some r) (ha : r'.a = r.a) (hb : stuB r' = true) : okTo (l.set i r') (l.set i r').length = true := by
 have hi := (List.getElem?_eq_some_iff.1 hr).1
 rw [List.length_set, okTo, List.all_eq_true]
 intro k hk
 have hk : k < l.length := by simpa using hk
 have hg := okTo_get h hk
 have key : ∀ (j : Nat) (x : R5), (l.set i r')[j]? = some x → ∃ y, l[j]? = some y ∧ y.a = x.a ∧ (stuB y = true → stuB x = true) := by
  intro j x hx
  rw [List.getElem?_set] at hx
  split at hx
  · rename_i e
    subst e
    injection hx with hx
    subst hx
    exact ⟨r, hr, ha.symm, fun _ => hb⟩
  · exact ⟨x, hx, rfl, id⟩
 obtain ⟨x, hx⟩ := list_split (l := l.set i r') (k := k) (by simpa using hk)
 obtain ⟨y, hy, hya, hyb⟩ := key k x hx
 rcases k with _ | k
 · have : stuB y = true := by simpa [okAt, hy] using hg
   simp [okAt, hx, hyb this]
 · obtain ⟨x0, hx0⟩ := list_split (l := l.set i r') (k := k) (by rw [List.length_set]; omega)
   obtain ⟨y0, hy0, hya0, _⟩ := key k x0 hx0
   have h2 : stuB y = true ∧ y0.a < y.a := by simpa [okAt, hy, hy0] using hg
   simp [okAt, hx, hx0, hyb h2.1]
   omega
/-- who is ready -/
theorem ready_facts {day pa le : Int} {l : List R5} (hs : schB day l pa le = true) {r : R5} (hr : r ∈ l) (hy : readyR day r = true) :
 hmO day pa le l r.a = some 0 ∧ r.a ∉ selB (unpR day) day pa le l ∧ (pa < 9999 → ∃ L : List R5, L.length = l.length ∧ stpB day pa le l 4 r.a 70 = some (day, L, pa + 1, le)) := by
 obtain ⟨i, hi⟩ := List.mem_iff_getElem?.1 hr
 have hf := find_own hs hi
 simp only [readyR, Bool.and_eq_true, decide_eq_true_eq] at hy
 obtain ⟨⟨y1, y2⟩, y3⟩ := hy
 have hsb := schB_mem hs hr
 obtain ⟨b1, b2, b3, b4, b5⟩ := stu_bounds hsb
 refine ⟨?_, ?_, fun hp => ?_⟩
 · rw [hm_hit hs hf hi, if_neg (by omega), if_neg (by omega)]
 · unfold selB
   rw [if_pos hs, List.mem_map]
   rintro ⟨s, h1, h2⟩
   obtain ⟨h3, h4⟩ := List.mem_filter.1 h1
   obtain ⟨j, hj⟩ := List.mem_iff_getElem?.1 h3
   have hf2 := find_own hs hj
   rw [h2, hf] at hf2
   have : i = j := by omega
   subst this
   rw [hi] at hj
   injection hj with hj
   subst hj
   simp only [unpR, decide_eq_true_eq] at h4
   omega
 · refine ⟨l.set i ⟨r.a, r.b + 1, 0, r.d, 0⟩, List.length_set, ?_⟩
   have hin : inB 70 0 100 = true := by decide
   have ht : teach day pa le l i r 4 70 = some (l.set i ⟨r.a, r.b + 1, 0, r.d, 0⟩, pa + 1, le) := by
    unfold teach
    rw [if_neg (by omega), if_pos rfl, if_neg (by rw [hin]; simp; omega), if_pos ⟨by omega, y3⟩]
   have hok := okTo_set (r' := ⟨r.a, r.b + 1, 0, r.d, 0⟩) (sch_okTo hs) hi rfl (by simp only [stuB, Bool.and_eq_true, inB_iff]; omega)
   have hs2 : schB day (l.set i ⟨r.a, r.b + 1, 0, r.d, 0⟩) (pa + 1) le = true := by
    have h2 := hs
    simp only [schB, Bool.and_eq_true, decide_eq_true_eq, inB_iff] at h2 ⊢
    obtain ⟨⟨⟨⟨c1, c2⟩, c3⟩, c4⟩, _⟩ := h2
    exact ⟨⟨⟨⟨c1, by rw [List.length_set]; exact c2⟩, by omega⟩, c4⟩, hok⟩
   unfold stpB
   rw [if_pos hs, stepS_t (.inr (.inl rfl)) hf hi, ht]
   show Option.filter _ (some (day, l.set i ⟨r.a, r.b + 1, 0, r.d, 0⟩, pa + 1, le)) = _
   rw [Option.filter_some, if_pos hs2]
theorem sel_mem {p : R5 → Bool} {day pa le : Int} {l : List R5} {z : Int} (hs : schB day l pa le = true) (h : z ∈ selB p day pa le l) : ∃ r ∈ l, p r = true ∧ r.a = z := by
 unfold selB at h
 rw [if_pos hs, List.mem_map] at h
 obtain ⟨r, h1, h2⟩ := h
 obtain ⟨h3, h4⟩ := List.mem_filter.1 h1
 exact ⟨r, h3, h4, h2⟩
end Go.Proofs.Ytkcbgiegoadkbaa
namespace Go.Proofs.Ytkcbgiegoadkbaa
open Go.RowKit
set_option linter.unusedVariables false
set_option linter.unusedSimpArgs false
theorem oAll {o : Option Sch4} (h : o.isSome = true) : o = some (oD o, oL o, oP o, oQ o) := by
 rcases o with _ | ⟨d, l, p, q⟩
 · cases h
 · rfl
theorem fsc_step {D P Q : Int} {l : List R5} {k id v : Int} {o : Option Sch4} (h : stpB D P Q l k id v = o) (hs : o.isSome = true) :
 schB (oD o) (oL o) (oP o) (oQ o) = true ∧ (P < oP o → k = 4 ∧ 70 ≤ v ∧ hmO D P Q l id = some 0 ∧ oP o = P + 1) ∧ (k ≠ 2 → ((oL o).length : Int) + oQ o = (l.length : Int) + Q) ∧ (0 ≤ P ∧ P ≤ 9999) ∧ (0 ≤ Q ∧ Q ≤ 9999) ∧ (0 ≤ oQ o ∧ oQ o ≤ 9999) := by
 have h2 := h.trans (oAll hs)
 obtain ⟨a, b, c⟩ := step_facts h2
 refine ⟨a, b, c, ?_⟩
 obtain ⟨hb, _⟩ := stpB_parts h2
 simp only [schB, Bool.and_eq_true, inB_iff] at hb a
 omega
/-- one more step of a run, as StepSchool answers -/
theorem fsc_next {q0 : Sch4} {xs : List R3} {k m : Nat} {x : R3} {d p q : Int} {L : List R5} {o : Option Sch4} (h : runTo q0 xs k = ((d, L, p, q), m)) (h0 : schQ q0 = true) (hx : xs[k]? = some x) (ho : stpB d p q L x.a x.b x.c = o) :
 (o.isSome = false → runTo q0 xs (k + 1) = ((d, L, p, q), m)) ∧ (o.isSome = true → runTo q0 xs (k + 1) = ((oD o, oL o, oP o, oQ o), m + 1)) := by
 have hk := (List.getElem?_eq_some_iff.1 hx).1
 have hb := (run_ok h h0 (by omega)).1
 unfold stpB at ho
 rw [if_pos hb] at ho
 refine ⟨fun hs => ?_, fun hs => ?_⟩
 · refine run_no h hx ?_
   rw [ho]
   cases o with
   | none => rfl
   | some s => cases hs
 · refine run_yes h hx ?_
   rw [ho]
   exact oAll hs
/-- what a run that goes answers -/
theorem fsc_run {q0 : Sch4} {xs : List R3} {o : Option (Sch4 × Nat)} (h : runB q0 xs = o) (hs : o.isSome = true) : schQ q0 = true ∧ ∃ c : Nat, runTo q0 xs xs.length = ((rD o, rL o, rP o, rQ o), c) ∧ rM o = (c : Int) := by
 unfold runB at h
 split at h
 · rename_i hh
   subst h
   refine ⟨hh.1, (runTo q0 xs xs.length).2, ?_, rfl⟩
   rfl
 · subst h
   cases hs
end Go.Proofs.Ytkcbgiegoadkbaa
