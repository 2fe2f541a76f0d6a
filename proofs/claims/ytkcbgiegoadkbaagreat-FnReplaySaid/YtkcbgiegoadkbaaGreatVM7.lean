/- The reference makes a step, whole; StepSchool: program and reference. -/
import Derived.Test.YtkcbgiegoadkbaaGreatVM6
import Derived.Test.YtkcbgiegoadkbaaGreatVScVg
import Derived.Test.YtkcbgiegoadkbaaGreatVScVh
import Derived.Test.YtkcbgiegoadkbaaGreatVScVi
import Derived.Test.YtkcbgiegoadkbaaGreatVScVj
import Derived.Test.YtkcbgiegoadkbaaGreatVScVb
namespace Go.Proofs.YtkcbgiegoadkbaaGreat
open Go.RowKit
set_option linter.unusedVariables false
set_option linter.unusedSimpArgs false
set_option maxRecDepth 100000 in
set_option maxHeartbeats 4000000 in
theorem l25Make_far (day pa le id v : Int) (A : Option Addr) (n c : Nat) (l : List R5) (w : World) (hn : n ≤ 8) (hnc : n ≤ c) (hA : SlOk A n c) (h : Reads w w.heap.size 5 A n (rowsV l)) (hv : 4000 - day < v) (hday : 0 ≤ day ∧ day ≤ 4000) :
 Calls Tryz.prog 100 #[schV day A n c pa le, .agg #[.int .i64 1, .int .i64 id, .int .i64 v]] w (RetMake none w) := by
 have hgt : decide (4000 - day < v) = true := by simpa using hv
 have H := Lib.hid h
 have HL := Lib.hid (rows_len h)
 have HA := Lib.hid (fun w h => l25Own_any day pa le A n c l w (by omega) hA h)
 have HF := Lib.hid (fun (w : World) h => l25Find_any day pa le id A n c l w (by omega) h)
 obtain ⟨zf, hzf⟩ : ∃ zf, findI l id = zf := ⟨_, rfl⟩
 rw [hzf] at HF
 clear hzf
 clear h
 go_enter Tryz.func100, Tryz.ntmps100
 go_wp2_with fail
 refine (HA.out _ ((H.out.ext (ext_alloc (ext_alloc (ext_alloc (ext_refl _) _) _) _) (Nat.le_refl _)).more (by simp; omega))).mono ?_
 rintro e w1 ⟨A1, c1, rfl, hown, hb1⟩
 have z0 : w.heap.size + 1 + 1 < w1.heap.size := by (have := hb1.size; simp at this; omega)
 have z1 : w.heap.size + 1 < w1.heap.size := by omega
 have z2 : w.heap.size < w1.heap.size := by omega
 have BX : Hid (Blk w1 w.heap.size 32 #[.int .i64 day, .slice A n c, .int .i64 pa, .int .i64 le]) := Lib.hid (((Blk.new w _ _).ext (ext_alloc (ext_alloc (ext_refl _) _) _)).ext hb1)
 have BY : Hid (Blk w1 (w.heap.size + 1) 82 #[.int .i64 1, .int .i64 id, .int .i64 v]) := Lib.hid (by
  have := ((Blk.new (w.alloc (.cells #[.int .i64 day, .slice A n c, .int .i64 pa, .int .i64 le] 32)) #[.int .i64 1, .int .i64 id, .int .i64 v] 82).ext (ext_alloc (ext_refl _) (.cells #[.int .i64 0, .slice none 0 0, .int .i64 0, .int .i64 0] 32))).ext hb1
  simpa using this)
 have BR : Hid (Blk w1 (w.heap.size + 1 + 1) 32 #[.int .i64 0, .slice none 0 0, .int .i64 0, .int .i64 0]) := Lib.hid (by
  have := (Blk.new ((w.alloc (.cells #[.int .i64 day, .slice A n c, .int .i64 pa, .int .i64 le] 32)).alloc (.cells #[.int .i64 1, .int .i64 id, .int .i64 v] 82)) #[.int .i64 0, .slice none 0 0, .int .i64 0, .int .i64 0] 32).ext hb1
  simpa using this)
 have hbw := Lib.hid (ext_trans (ext_alloc (ext_alloc (ext_alloc (ext_refl w) _) _) _) hb1)
 have HO : Hid (w1.ownsRow w.heap.size 111 5 (.slice A1 n c1) n (rowsV l)) := Lib.hid (own_base hown (by simp; omega))
 clear hb1 hown
 obtain ⟨x0, x1, x2, x3⟩ := BX.out.q4
 obtain ⟨fx0, fx1, fx2, fx3⟩ := BX.out.z4
 obtain ⟨y0, y1, y2⟩ := BY.out.q3
 obtain ⟨fy0, fy1, fy2⟩ := BY.out.z3
 obtain ⟨r0, r1, r2, r3⟩ := BR.out.q4
 obtain ⟨fr0, fr1, fr2, fr3⟩ := BR.out.z4
 go_wp2_with fail
 refine (HF.out _ (((H.out.ext hbw.out (Nat.le_refl _)).ext (ext_alloc (ext_refl _) _) (by omega)).more (by simp; omega))).mono ?_
 rintro e w5 ⟨rfl, hb5⟩
 have z5 : w1.heap.size < w5.heap.size := by (have := hb5.size; simp at this; omega)
 have z50 : w.heap.size + 1 + 1 < w5.heap.size := by omega
 have z51 : w.heap.size + 1 < w5.heap.size := by omega
 have z52 : w.heap.size < w5.heap.size := by omega
 have b5 := Lib.hid (ext_trans hbw.out (ext_trans (ext_alloc (ext_refl _) _) hb5))
 have O5 := Lib.hid (own_ext HO.out (ext_trans (ext_alloc (ext_refl _) _) hb5))
 have GX5 := Lib.hid (BX.out.ext (ext_trans (ext_alloc (ext_refl _) _) hb5))
 have GY5 := Lib.hid (BY.out.ext (ext_trans (ext_alloc (ext_refl _) _) hb5))
 have GR5 := Lib.hid (BR.out.ext (ext_trans (ext_alloc (ext_refl _) _) hb5))
 have GT5 : Hid (Blk w5 w1.heap.size 32 #[.int .i64 day, .slice A1 n c1, .int .i64 pa, .int .i64 le]) := Lib.hid ((Blk.new w1 _ _).ext hb5)
 clear hb5 x0 x1 x2 x3 fx0 fx1 fx2 fx3 y0 y1 y2 fy0 fy1 fy2 r0 r1 r2 r3 fr0 fr1 fr2 fr3
 obtain ⟨p0, p1, p2, p3⟩ := GX5.out.q4
 obtain ⟨fp0, fp1, fp2, fp3⟩ := GX5.out.z4
 obtain ⟨m0, m1, m2⟩ := GY5.out.q3
 obtain ⟨fm0, fm1, fm2⟩ := GY5.out.z3
 obtain ⟨s0, s1, s2, s3⟩ := GR5.out.q4
 obtain ⟨fs0, fs1, fs2, fs3⟩ := GR5.out.z4
 obtain ⟨t0, t1, t2, t3⟩ := GT5.out.q4
 obtain ⟨ft0, ft1, ft2, ft3⟩ := GT5.out.z4
 go_wp2
 refine bodyPost_ret (v := .tuple #[schV day A1 n c1 pa le, .bool false]) (by simp [results, Tryz.results100, go_sem, *]) rfl ?_
 have hne := own_nb O5.out GR5.out (by decide)
 refine ⟨A1, c1, day, pa, le, l, ?_, ?_, (fun x hx => by cases hx), ?_⟩
 · rw [HL.out]; rfl
 · rw [HL.out]
   iterate 4 refine own_set_nb ?_ hne _
   exact O5.out
 · iterate 4 refine ext_set ?_ (by show w.heap.size ≤ w.heap.size + 1 + 1; omega) _
   exact b5.out

theorem teach3 {day pa le : Int} {l : List R5} {i : Nat} {r : R5} {v : Int} (hv : inB v 1 20 = true) : ((teach day pa le l i r 3 v).map fun q => (day, q.1, q.2.1, q.2.2)).filter (fun q => schB q.1 q.2.1 q.2.2.1 q.2.2.2) =
 if chgB r 3 day = true then (if schB day (l.set i (chgR r 3 v day)) pa le = true then some (day, l.set i (chgR r 3 v day), pa, le) else none) else none := by
 by_cases hd : r.d < day
 · simp [teach, hd, chgB, show ¬ day ≤ r.d by omega]
 · simp [teach, hd, hv, chgB, chgR, show day ≤ r.d by omega, Option.filter_some]
theorem teach5 {day pa le : Int} {l : List R5} {i : Nat} {r : R5} {v : Int} (hv : inB v 1 365 = true) : ((teach day pa le l i r 5 v).map fun q => (day, q.1, q.2.1, q.2.2)).filter (fun q => schB q.1 q.2.1 q.2.2.1 q.2.2.2) =
 if chgB r 5 day = true then (if schB day (l.set i (chgR r 5 v day)) pa le = true then some (day, l.set i (chgR r 5 v day), pa, le) else none) else none := by
 simp [teach, hv, chgB, chgR, Option.filter_some]
theorem teach4 {day pa le : Int} {l : List R5} {i : Nat} {r : R5} {v : Int} (hv : inB v 0 100 = true) (hs : stuB r = true) : ((teach day pa le l i r 4 v).map fun q => (day, q.1, q.2.1, q.2.2)).filter (fun q => schB q.1 q.2.1 q.2.2.1 q.2.2.2) =
 if chgB r 4 day = true then (if schB day (l.set i (chgR r 4 v day)) (if passB r v = true then pa + 1 else pa) le = true then some (day, l.set i (chgR r 4 v day), (if passB r v = true then pa + 1 else pa), le) else none) else none := by
 have hb := (stu_bounds hs).2.1
 by_cases hd : r.d < day
 · simp [teach, hd, chgB, show ¬ day ≤ r.d by omega]
 · by_cases h10 : r.b = 10
   · simp [teach, h10, chgB]
   · have hlt : r.b < 10 := by omega
     by_cases hp : 70 ≤ v ∧ 10 + 5 * r.b ≤ r.c
     · simp [teach, hd, h10, hv, hp, chgB, chgR, passB, hlt, show day ≤ r.d by omega, Option.filter_some]
     · have hpb : passB r v = false := by
        rw [Bool.eq_false_iff]; intro h; simp [passB] at h; exact hp h
       simp [teach, hd, h10, hv, hp, chgB, chgR, hpb, hlt, show day ≤ r.d by omega, Option.filter_some]
theorem teach6 {day pa le : Int} {l : List R5} {i : Nat} {r : R5} : ((teach day pa le l i r 6 0).map fun q => (day, q.1, q.2.1, q.2.2)).filter (fun q => schB q.1 q.2.1 q.2.2.1 q.2.2.2) =
 if schB day (l.eraseIdx i) pa (le + 1) = true then some (day, l.eraseIdx i, pa, le + 1) else none := by
 simp [teach, Option.filter_some]
theorem l25Make_any (day pa le k id v : Int) (A : Option Addr) (n c : Nat) (l : List R5) (w : World) (hnc : n ≤ c) (hA : SlOk A n c) (h : Reads w w.heap.size 5 A n (rowsV l)) (hs : schB day l pa le = true) (hok : stepOk l k id v = true) :
 Calls Tryz.prog 100 #[schV day A n c pa le, .agg #[.int .i64 k, .int .i64 id, .int .i64 v]] w (RetMake (stepS day pa le l k id v) w) := by
 have hn : n ≤ 8 := by have := schB_len hs; have := rows_len h; omega
 have hday := schB_day hs
 have hpl := schB_pa hs
 by_cases h1 : k = 1
 · subst h1
   have hv : id = 0 ∧ 1 ≤ v := by simpa [stepOk] using hok
   rw [stepS_1 hok]
   by_cases hf : v ≤ 4000 - day
   · exact l25Make_wait day pa le id v A n c l w hn hnc hA h hv.2 hday hf
   · rw [if_neg (by intro hh; have := schB_day hh; omega)]
     exact l25Make_far day pa le id v A n c l w hn hnc hA h (by omega) hday
 by_cases h2 : k = 2
 · subst h2
   rw [stepS_2 hok]
   exact l25Make_enrol day pa le id v A n c l w hn hnc hA h
 have h36 : k = 3 ∨ k = 4 ∨ k = 5 ∨ k = 6 := by
  by_cases h3 : k = 3
  · exact .inl h3
  by_cases h4 : k = 4
  · exact .inr (.inl h4)
  by_cases h5 : k = 5
  · exact .inr (.inr (.inl h5))
  · simp [stepOk, h1, h2, h3, h4, h5] at hok
    exact .inr (.inr (.inr hok.1.1))
 obtain ⟨i, r, hf, hr, _⟩ := stepOk_find hok h36
 have hst := schB_mem hs (List.mem_of_getElem? hr)
 rw [stepS_t h36 hf hr]
 rcases h36 with rfl | rfl | rfl | rfl
 · have hv : inB v 1 20 = true := by simp [stepOk] at hok; exact hok.2
   rw [teach3 hv]
   exact l25Make_3 day pa le id v A n c l w hn hnc hA h i r hf hr hst hday hpl.1 (inB_iff.1 hv)
 · have hv : inB v 0 100 = true := by simp [stepOk] at hok; exact hok.2
   rw [teach4 hv hst]
   rcases hp : passB r v with _ | _
   · simpa using l25Make_4f day pa le id v A n c l w hn hnc hA h i r hf hr hst hday hpl.1 (inB_iff.1 hv) hp
   · simpa using l25Make_4p day pa le id v A n c l w hn hnc hA h i r hf hr hst hday hpl.1 (inB_iff.1 hv) hp
 · have hv : inB v 1 365 = true := by simp [stepOk] at hok; exact hok.2
   rw [teach5 hv]
   exact l25Make_5 day pa le id v A n c l w hn hnc hA h i r hf hr hst hday hpl.1 (inB_iff.1 hv)
 · have hv : v = 0 := by simp [stepOk] at hok; exact hok.2
   subst hv
   rw [teach6]
   exact l25Make_6 day pa le id 0 A n c l w hn hnc hA h i r hf hr hpl.2
end Go.Proofs.YtkcbgiegoadkbaaGreat
namespace Go.Proofs.YtkcbgiegoadkbaaGreat
open Go.RowKit
set_option linter.unusedVariables false
set_option linter.unusedSimpArgs false
def RetStp (day pa le : Int) (l : List R5) (k id v : Int) (w : World) (e : Ending) (w' : World) : Prop := RetSch (stpB day pa le l k id v) w e w'
end Go.Proofs.YtkcbgiegoadkbaaGreat
namespace Go.Proofs.YtkcbgiegoadkbaaGreat
open Go.RowKit
set_option linter.unusedVariables false
set_option linter.unusedSimpArgs false
set_option maxRecDepth 100000 in
set_option maxHeartbeats 4000000 in
theorem specStep_any (day pa le k id v : Int) (A : Option Addr) (n c : Nat) (l : List R5) (w : World) (hn : n ≤ 1048576) (hnc : n ≤ c) (hA : SlOk A n c) (h : Reads w w.heap.size 5 A n (rowsV l)) :
 Calls Tryz.prog 79 #[schV day A n c pa le, .agg #[.int .i64 k, .int .i64 id, .int .i64 v]] w (RetStp day pa le l k id v w) := by
 have HI := Lib.hid (fun (w : World) h => l25Good_any day pa le A n c l w hn h)
 have HT := Lib.hid (fun (w : World) h => l25Step_any day pa le k id v A n c l w hn h)
 have H := Lib.hid h
 unfold RetStp stpB
 clear h
 rcases hs : schB day l pa le with _ | _
 · rw [hs] at HI
   clear hs HT
   rw [if_neg (by simp)]
   go_enter Tryz.func79, Tryz.ntmps79
   go_wp2_with fail
   refine (HI.out _ ((H.out.ext (ext_alloc (ext_alloc (ext_alloc (ext_refl _) _) _) _) (Nat.le_refl _)).more (by simp; omega))).mono ?_
   rintro e w1 ⟨rfl, hb1⟩
   obtain ⟨hc1, hf1⟩ := bcell hb1
   have z0 : w.heap.size + 1 + 1 < w1.heap.size := by (have := hb1.size; simp at this; omega)
   have b1 := Lib.hid (ext_trans (ext_alloc (ext_alloc (ext_alloc (ext_refl w) _) _) _) hb1)
   clear hb1
   go_wp2
   refine bodyPost_ret (v := .tuple #[schV 0 none 0 0 0 0, .bool false]) (by simp [results, Tryz.results79, go_sem, *]) rfl ?_
   refine ⟨rfl, ?_⟩
   repeat (first | (with_reducible exact b1.out) | (with_reducible refine ext_set ?_ (by simp <;> omega) _))
 rw [hs] at HI
 rw [if_pos rfl]
 rcases hk : stepOk l k id v with _ | _
 · rw [stepS_no hk]
   rw [hk] at HT
   clear hk hs
   go_enter Tryz.func79, Tryz.ntmps79
   go_wp2_with fail
   refine (HI.out _ ((H.out.ext (ext_alloc (ext_alloc (ext_alloc (ext_refl _) _) _) _) (Nat.le_refl _)).more (by simp; omega))).mono ?_
   rintro e w1 ⟨rfl, hb1⟩
   obtain ⟨hc1, hf1⟩ := bcell hb1
   have z0 : w.heap.size + 1 + 1 < w1.heap.size := by (have := hb1.size; simp at this; omega)
   have z1 : w.heap.size + 1 < w1.heap.size := by omega
   have z2 : w.heap.size < w1.heap.size := by omega
   have b1 := Lib.hid (ext_trans (ext_alloc (ext_alloc (ext_alloc (ext_refl w) _) _) _) hb1)
   clear hb1
   go_wp2_with fail
   refine (HT.out _ ((H.out.ext b1.out (Nat.le_refl _)).more (by omega))).mono ?_
   rintro e w2 ⟨rfl, hb2⟩
   obtain ⟨hc2, hf2⟩ := bcell hb2
   have y0 : w.heap.size + 1 + 1 < w2.heap.size := by (have := hb2.size; omega)
   have b2 := Lib.hid (ext_trans b1.out hb2)
   clear hb2
   go_wp2
   refine bodyPost_ret (v := .tuple #[schV 0 none 0 0 0 0, .bool false]) (by simp [results, Tryz.results79, go_sem, *]) rfl ?_
   refine ⟨rfl, ?_⟩
   repeat (first | (with_reducible exact b2.out) | (with_reducible refine ext_set ?_ (by simp <;> omega) _))
 · have HM := Lib.hid (fun (w : World) h => l25Make_any day pa le k id v A n c l w hnc hA h hs hk)
   rw [hk] at HT
   obtain ⟨O, hO⟩ : ∃ O, stepS day pa le l k id v = O := ⟨_, rfl⟩
   rw [hO] at HM ⊢
   clear hs hO hk
   go_enter Tryz.func79, Tryz.ntmps79
   go_wp2_with fail
   refine (HI.out _ ((H.out.ext (ext_alloc (ext_alloc (ext_alloc (ext_refl _) _) _) _) (Nat.le_refl _)).more (by simp; omega))).mono ?_
   rintro e w1 ⟨rfl, hb1⟩
   obtain ⟨hc1, hf1⟩ := bcell hb1
   have z0 : w.heap.size + 1 + 1 < w1.heap.size := by (have := hb1.size; simp at this; omega)
   have z1 : w.heap.size + 1 < w1.heap.size := by omega
   have z2 : w.heap.size < w1.heap.size := by omega
   have b1 := Lib.hid (ext_trans (ext_alloc (ext_alloc (ext_alloc (ext_refl w) _) _) _) hb1)
   clear hb1
   go_wp2_with fail
   refine (HT.out _ ((H.out.ext b1.out (Nat.le_refl _)).more (by omega))).mono ?_
   rintro e w2 ⟨rfl, hb2⟩
   obtain ⟨hc2, hf2⟩ := bcell hb2
   have y0 : w.heap.size + 1 + 1 < w2.heap.size := by (have := hb2.size; omega)
   have y1 : w.heap.size + 1 < w2.heap.size := by omega
   have y2 : w.heap.size < w2.heap.size := by omega
   have b2 := Lib.hid (ext_trans b1.out hb2)
   clear hb2
   go_wp2_with fail
   refine (HM.out _ ((H.out.ext b2.out (Nat.le_refl _)).more (by omega))).mono ?_
   rintro e w3 ⟨A3, c3, D, P, Q, L, rfl, ho3, hx3, hb3⟩
   obtain ⟨hc3, hf3⟩ := bcell hb3
   have x0 : w.heap.size + 1 + 1 < w3.heap.size := by (have := hb3.size; omega)
   have b3 := Lib.hid (ext_trans b2.out hb3)
   have O3 := Lib.hid ho3
   have HX3 := Lib.hid hx3
   clear hb3 ho3 hx3
   rcases O with _ | ⟨D', L', P', Q'⟩
   · have hsome : (none : Option Sch4).isSome = false := rfl
     go_wp2
     refine bodyPost_ret (v := .tuple #[schV 0 none 0 0 0 0, .bool false]) (by simp [results, Tryz.results79, go_sem, *]) rfl ?_
     refine ⟨rfl, ?_⟩
     repeat (first | (with_reducible exact b3.out) | (with_reducible refine ext_set ?_ (by simp <;> omega) _) | (with_reducible refine ext_alloc ?_ _))
   · have he := HX3.out _ rfl
     injection he with h1 he
     injection he with h2 he
     injection he with h3 h4
     subst h1 h2 h3 h4
     clear HX3
     go_wp2
     refine bodyPost_ret (v := .tuple #[schV D' A3 L'.length c3 P' Q', .bool true]) (by simp [results, Tryz.results79, go_sem, *]) rfl ?_
     refine ⟨A3, c3, rfl, own_base (base := w2.heap.size) ?_ (by omega), ?_⟩
     · repeat (first | (with_reducible exact O3.out) | (with_reducible refine own_set ?_ (by show w.heap.size + 1 + 1 < w2.heap.size; omega) _) | (with_reducible refine World.ownsRow.alloc ?_ _))
     · repeat (first | (with_reducible exact b3.out) | (with_reducible refine ext_set ?_ (by simp <;> omega) _) | (with_reducible refine ext_alloc ?_ _))
end Go.Proofs.YtkcbgiegoadkbaaGreat
namespace Go.Proofs.YtkcbgiegoadkbaaGreat
open Go.RowKit
set_option linter.unusedVariables false
set_option linter.unusedSimpArgs false
def oD (o : Option Sch4) : Int := match o with | none => 0 | some (d, _, _, _) => d
def oL (o : Option Sch4) : List R5 := match o with | none => [] | some (_, l, _, _) => l
def oP (o : Option Sch4) : Int := match o with | none => 0 | some (_, _, p, _) => p
def oQ (o : Option Sch4) : Int := match o with | none => 0 | some (_, _, _, q) => q
theorem own_cap2 {w : World} {base e size n c : Nat} {A : Option Addr} {xs : List Value} (h : w.ownsRow base e size (.slice A n c) n xs) : n ≤ c := by
 rcases h.2 with ⟨h', _⟩ | ⟨g', cap', cur, h', _, hg, hnc, _, _, _⟩
 · injection h' with _ h1 h2; omega
 · injection h' with _ h1 h2; omega
/-- a school of the call's own and a bool come back, whatever the answer -/
def RetUni (D P Q : Int) (N : Nat) (L : List R5) (ok : Bool) (w : World) (e : Ending) (w' : World) : Prop :=
 ∃ A c, e = .returned (.tuple #[schV D A N c P Q, .bool ok]) ∧ w'.ownsRow w.heap.size 111 5 (.slice A N c) N (rowsV L) ∧ Below w.heap.size w w'
theorem retUni (o : Option Sch4) (w : World) (e : Ending) (w' : World) (h : RetSch o w e w') : RetUni (oD o) (oP o) (oQ o) (oL o).length (oL o) o.isSome w e w' := by
 rcases o with _ | ⟨d, l, p, q⟩
 · exact ⟨none, 0, h.1, World.ownsRow_nil _ _ _ _, h.2⟩
 · exact h
theorem oL_len (day pa le : Int) (l : List R5) (k id v : Int) : (oL (stpB day pa le l k id v)).length ≤ 8 := by
 unfold stpB
 split
 · unfold stepS
   rcases h : tryS day pa le l k id v with _ | q
   · simp [oL]
   · rw [Option.filter_some]
     split
     · rename_i hs; exact schB_len hs
     · simp [oL]
 · simp [oL]
theorem own_cap3 {w : World} {base e size n c : Nat} {A : Option Addr} {xs : List Value} (h : w.ownsRow base e size (.slice A n c) n xs) : n ≤ c := own_cap2 h
end Go.Proofs.YtkcbgiegoadkbaaGreat
