/- The reference makes a step, whole; StepSchool: program and reference. -/
import Derived.Test.YtclihlihaigddaaVM6
import Derived.Test.YtclihlihaigddaaVScVg
import Derived.Test.YtclihlihaigddaaVScVh
import Derived.Test.YtclihlihaigddaaVScVi
import Derived.Test.YtclihlihaigddaaVScVj
import Derived.Test.YtclihlihaigddaaVScVb
import Derived.Test.YtclihlihaigddaaVRdW
import Derived.Test.YtclihlihaigddaaVScEc
namespace Go.Proofs.Ytclihlihaigddaa
open Go.RowKit
set_option linter.unusedVariables false
set_option linter.unusedSimpArgs false
set_option maxRecDepth 100000 in
set_option maxHeartbeats 4000000 in
theorem l25Make_far (day pa le id v : Int) (A : Option Addr) (n c : Nat) (l : List R5) (w : World) (hn : n ≤ 8) (hnc : n ≤ c) (hA : SlOk A n c) (h : Reads w w.heap.size 5 A n (rowsV l)) (hv : 4000 - day < v) (hday : 0 ≤ day ∧ day ≤ 4000) :
 Calls Try.prog 110 #[schV day A n c pa le, .agg #[.int .i64 1, .int .i64 id, .int .i64 v]] w (RetMake none w) := by
 have hgt : decide (4000 - day < v) = true := by simpa using hv
 have H := Lib.hid h
 have HL := Lib.hid (rows_len h)
 have HA := Lib.hid (fun w h => l25Own_any day pa le A n c l w (by omega) hA h)
 have HF := Lib.hid (fun (w : World) h => l25Find_any day pa le id A n c l w (by omega) h)
 obtain ⟨zf, hzf⟩ : ∃ zf, findI l id = zf := ⟨_, rfl⟩
 rw [hzf] at HF
 clear hzf
 clear h
 go_enter Try.func110, Try.ntmps110
 go_wp2_with fail
 refine (HA.out _ ((H.out.ext (ext_alloc (ext_alloc (ext_alloc (ext_refl _) _) _) _) (Nat.le_refl _)).more (by simp; omega))).mono ?_
 rintro e w1 ⟨A1, c1, rfl, hown, hb1⟩
 have z0 : w.heap.size + 1 + 1 < w1.heap.size := by (have := hb1.size; simp at this; omega)
 have z1 : w.heap.size + 1 < w1.heap.size := by omega
 have z2 : w.heap.size < w1.heap.size := by omega
 have BX : Hid (Blk w1 w.heap.size 24 #[.int .i64 day, .slice A n c, .int .i64 pa, .int .i64 le]) := Lib.hid (((Blk.new w _ _).ext (ext_alloc (ext_alloc (ext_refl _) _) _)).ext hb1)
 have BY : Hid (Blk w1 (w.heap.size + 1) 74 #[.int .i64 1, .int .i64 id, .int .i64 v]) := Lib.hid (by
  have := ((Blk.new (w.alloc (.cells #[.int .i64 day, .slice A n c, .int .i64 pa, .int .i64 le] 24)) #[.int .i64 1, .int .i64 id, .int .i64 v] 74).ext (ext_alloc (ext_refl _) (.cells #[.int .i64 0, .slice none 0 0, .int .i64 0, .int .i64 0] 24))).ext hb1
  simpa using this)
 have BR : Hid (Blk w1 (w.heap.size + 1 + 1) 24 #[.int .i64 0, .slice none 0 0, .int .i64 0, .int .i64 0]) := Lib.hid (by
  have := (Blk.new ((w.alloc (.cells #[.int .i64 day, .slice A n c, .int .i64 pa, .int .i64 le] 24)).alloc (.cells #[.int .i64 1, .int .i64 id, .int .i64 v] 74)) #[.int .i64 0, .slice none 0 0, .int .i64 0, .int .i64 0] 24).ext hb1
  simpa using this)
 have hbw := Lib.hid (ext_trans (ext_alloc (ext_alloc (ext_alloc (ext_refl w) _) _) _) hb1)
 have HO : Hid (w1.ownsRow w.heap.size 109 5 (.slice A1 n c1) n (rowsV l)) := Lib.hid (own_base hown (by simp; omega))
 clear hb1 hown
 obtain ⟨x0, x1, x2, x3⟩ := BX.out.q4
 obtain ⟨fx0, fx1, fx2, fx3⟩ := BX.out.z4
 obtain ⟨y0, y1, y2⟩ := BY.out.q3
 obtain ⟨fy0, fy1, fy2⟩ := BY.out.z3
 obtain ⟨r0, r1, r2, r3⟩ := BR.out.q4
 obtain ⟨fr0, fr1, fr2, fr3⟩ := BR.out.z4
 go_wp2_with fail
 refine (HF.out _ (((H.out.ext hbw.out (Nat.le_refl _)).ext (ext_alloc (ext_refl _) _) (by omega)).more (by simp; omega))).mono ?_
 rintro e w5 ⟨rfl, hb5⟩
 have z5 : w1.heap.size < w5.heap.size := by (have := hb5.size; simp at this; omega)
 have z50 : w.heap.size + 1 + 1 < w5.heap.size := by omega
 have z51 : w.heap.size + 1 < w5.heap.size := by omega
 have z52 : w.heap.size < w5.heap.size := by omega
 have b5 := Lib.hid (ext_trans hbw.out (ext_trans (ext_alloc (ext_refl _) _) hb5))
 have O5 := Lib.hid (own_ext HO.out (ext_trans (ext_alloc (ext_refl _) _) hb5))
 have GX5 := Lib.hid (BX.out.ext (ext_trans (ext_alloc (ext_refl _) _) hb5))
 have GY5 := Lib.hid (BY.out.ext (ext_trans (ext_alloc (ext_refl _) _) hb5))
 have GR5 := Lib.hid (BR.out.ext (ext_trans (ext_alloc (ext_refl _) _) hb5))
 have GT5 : Hid (Blk w5 w1.heap.size 24 #[.int .i64 day, .slice A1 n c1, .int .i64 pa, .int .i64 le]) := Lib.hid ((Blk.new w1 _ _).ext hb5)
 clear hb5 x0 x1 x2 x3 fx0 fx1 fx2 fx3 y0 y1 y2 fy0 fy1 fy2 r0 r1 r2 r3 fr0 fr1 fr2 fr3
 obtain ⟨p0, p1, p2, p3⟩ := GX5.out.q4
 obtain ⟨fp0, fp1, fp2, fp3⟩ := GX5.out.z4
 obtain ⟨m0, m1, m2⟩ := GY5.out.q3
 obtain ⟨fm0, fm1, fm2⟩ := GY5.out.z3
 obtain ⟨s0, s1, s2, s3⟩ := GR5.out.q4
 obtain ⟨fs0, fs1, fs2, fs3⟩ := GR5.out.z4
 obtain ⟨t0, t1, t2, t3⟩ := GT5.out.q4
 obtain ⟨ft0, ft1, ft2, ft3⟩ := GT5.out.z4
 go_wp2
 refine bodyPost_ret (v := .tuple #[schV day A1 n c1 pa le, .bool false]) (by simp [results, Try.results110, go_sem, *]) rfl ?_
 have hne := own_nb O5.out GR5.out (by decide)
 refine ⟨A1, c1, day, pa, le, l, ?_, ?_, (fun x hx => by cases hx), ?_⟩
 · rw [HL.out]; rfl
 · rw [HL.out]
   iterate 4 refine own_set_nb ?_ hne _
   exact O5.out
 · iterate 4 refine ext_set ?_ (by show w.heap.size ≤ w.heap.size + 1 + 1; omega) _
   exact b5.out

theorem teach3 {day pa le : Int} {l : List R5} {i : Nat} {r : R5} {v : Int} (hv : inB v 1 20 = true) : ((teach day pa le l i r 3 v).map fun q => (day, q.1, q.2.1, q.2.2)).filter (fun q => schB q.1 q.2.1 q.2.2.1 q.2.2.2) =
 if chgB r 3 day = true then (if schB day (l.set i (chgR r 3 v day)) pa le = true then some (day, l.set i (chgR r 3 v day), pa, le) else none) else none := by
 by_cases hd : r.d < day
 · simp [teach, hd, chgB, show ¬ day ≤ r.d by omega]
 · simp [teach, hd, hv, chgB, chgR, show day ≤ r.d by omega, Option.filter_some]
theorem teach5 {day pa le : Int} {l : List R5} {i : Nat} {r : R5} {v : Int} (hv : inB v 1 365 = true) : ((teach day pa le l i r 5 v).map fun q => (day, q.1, q.2.1, q.2.2)).filter (fun q => schB q.1 q.2.1 q.2.2.1 q.2.2.2) =
 if chgB r 5 day = true then (if schB day (l.set i (chgR r 5 v day)) pa le = true then some (day, l.set i (chgR r 5 v day), pa, le) else none) else none := by
 simp [teach, hv, chgB, chgR, Option.filter_some]
theorem teach4 {day pa le : Int} {l : List R5} {i : Nat} {r : R5} {v : Int} (hv : inB v 0 100 = true) (hs : stuB r = true) : ((teach day pa le l i r 4 v).map fun q => (day, q.1, q.2.1, q.2.2)).filter (fun q => schB q.1 q.2.1 q.2.2.1 q.2.2.2) =
 if chgB r 4 day = true then (if schB day (l.set i (chgR r 4 v day)) (if passB r v = true then pa + 1 else pa) le = true then some (day, l.set i (chgR r 4 v day), (if passB r v = true then pa + 1 else pa), le) else none) else none := by
 have hb := (stu_bounds hs).2.1
 by_cases hd : r.d < day
 · simp [teach, hd, chgB, show ¬ day ≤ r.d by omega]
 · by_cases h10 : r.b = 10
   · simp [teach, h10, chgB]
   · have hlt : r.b < 10 := by omega
     by_cases hp : 70 ≤ v ∧ 10 + 5 * r.b ≤ r.c
     · simp [teach, hd, h10, hv, hp, chgB, chgR, passB, hlt, show day ≤ r.d by omega, Option.filter_some]
     · have hpb : passB r v = false := by
        rw [Bool.eq_false_iff]; intro h; simp [passB] at h; exact hp h
       simp [teach, hd, h10, hv, hp, chgB, chgR, hpb, hlt, show day ≤ r.d by omega, Option.filter_some]
theorem teach6 {day pa le : Int} {l : List R5} {i : Nat} {r : R5} : ((teach day pa le l i r 6 0).map fun q => (day, q.1, q.2.1, q.2.2)).filter (fun q => schB q.1 q.2.1 q.2.2.1 q.2.2.2) =
 if schB day (l.eraseIdx i) pa (le + 1) = true then some (day, l.eraseIdx i, pa, le + 1) else none := by
 simp [teach, Option.filter_some]
theorem l25Make_any (day pa le k id v : Int) (A : Option Addr) (n c : Nat) (l : List R5) (w : World) (hnc : n ≤ c) (hA : SlOk A n c) (h : Reads w w.heap.size 5 A n (rowsV l)) (hs : schB day l pa le = true) (hok : stepOk l k id v = true) :
 Calls Try.prog 110 #[schV day A n c pa le, .agg #[.int .i64 k, .int .i64 id, .int .i64 v]] w (RetMake (stepS day pa le l k id v) w) := by
 have hn : n ≤ 8 := by have := schB_len hs; have := rows_len h; omega
 have hday := schB_day hs
 have hpl := schB_pa hs
 by_cases h1 : k = 1
 · subst h1
   have hv : id = 0 ∧ 1 ≤ v := by simpa [stepOk] using hok
   rw [stepS_1 hok]
   by_cases hf : v ≤ 4000 - day
   · exact l25Make_wait day pa le id v A n c l w hn hnc hA h hv.2 hday hf
   · rw [if_neg (by intro hh; have := schB_day hh; omega)]
     exact l25Make_far day pa le id v A n c l w hn hnc hA h (by omega) hday
 by_cases h2 : k = 2
 · subst h2
   rw [stepS_2 hok]
   exact l25Make_enrol day pa le id v A n c l w hn hnc hA h
 have h36 : k = 3 ∨ k = 4 ∨ k = 5 ∨ k = 6 := by
  by_cases h3 : k = 3
  · exact .inl h3
  by_cases h4 : k = 4
  · exact .inr (.inl h4)
  by_cases h5 : k = 5
  · exact .inr (.inr (.inl h5))
  · simp [stepOk, h1, h2, h3, h4, h5] at hok
    exact .inr (.inr (.inr hok.1.1))
 obtain ⟨i, r, hf, hr, _⟩ := stepOk_find hok h36
 have hst := schB_mem hs (List.mem_of_getElem? hr)
 rw [stepS_t h36 hf hr]
 rcases h36 with rfl | rfl | rfl | rfl
 · have hv : inB v 1 20 = true := by simp [stepOk] at hok; exact hok.2
   rw [teach3 hv]
   exact l25Make_3 day pa le id v A n c l w hn hnc hA h i r hf hr hst hday hpl.1 (inB_iff.1 hv)
 · have hv : inB v 0 100 = true := by simp [stepOk] at hok; exact hok.2
   rw [teach4 hv hst]
   rcases hp : passB r v with _ | _
   · simpa using l25Make_4f day pa le id v A n c l w hn hnc hA h i r hf hr hst hday hpl.1 (inB_iff.1 hv) hp
   · simpa using l25Make_4p day pa le id v A n c l w hn hnc hA h i r hf hr hst hday hpl.1 (inB_iff.1 hv) hp
 · have hv : inB v 1 365 = true := by simp [stepOk] at hok; exact hok.2
   rw [teach5 hv]
   exact l25Make_5 day pa le id v A n c l w hn hnc hA h i r hf hr hst hday hpl.1 (inB_iff.1 hv)
 · have hv : v = 0 := by simp [stepOk] at hok; exact hok.2
   subst hv
   rw [teach6]
   exact l25Make_6 day pa le id 0 A n c l w hn hnc hA h i r hf hr hpl.2
end Go.Proofs.Ytclihlihaigddaa
namespace Go.Proofs.Ytclihlihaigddaa
open Go.RowKit
set_option linter.unusedVariables false
set_option linter.unusedSimpArgs false
def RetStp (day pa le : Int) (l : List R5) (k id v : Int) (w : World) (e : Ending) (w' : World) : Prop := RetSch (stpB day pa le l k id v) w e w'
set_option maxRecDepth 100000 in
set_option maxHeartbeats 4000000 in
theorem implStep_any (day pa le k id v : Int) (A : Option Addr) (n c : Nat) (l : List R5) (w : World) (hn : n ≤ 1048576) (hA : SlOk A n c) (h : Reads w w.heap.size 5 A n (rowsV l)) (hv2 : v ≤ 9223372036854775807) :
 Calls Try.prog 47 #[schV day A n c pa le, .agg #[.int .i64 k, .int .i64 id, .int .i64 v]] w (RetStp day pa le l k id v w) := by
 have HI := Lib.hid (fun (w : World) h => isSchool_any day pa le A n c l w hn h)
 have H := Lib.hid h
 unfold RetStp stpB
 clear h
 rcases hs : schB day l pa le with _ | _
 · rw [hs] at HI
   clear hs
   rw [if_neg (by simp)]
   go_enter Try.func47, Try.ntmps47
   go_wp2_with fail
   refine (HI.out _ ((H.out.ext (ext_alloc (ext_alloc (ext_alloc (ext_refl _) _) _) _) (Nat.le_refl _)).more (by simp; omega))).mono ?_
   rintro e w1 ⟨rfl, hb1⟩
   obtain ⟨hc1, hf1⟩ := bcell hb1
   have z0 : w.heap.size + 1 + 1 < w1.heap.size := by (have := hb1.size; simp at this; omega)
   have b1 := Lib.hid (ext_trans (ext_alloc (ext_alloc (ext_alloc (ext_refl w) _) _) _) hb1)
   clear hb1
   go_wp2
   refine bodyPost_ret (v := .tuple #[schV 0 none 0 0 0 0, .bool false]) (by simp [results, Try.results47, go_sem, *]) rfl ?_
   refine ⟨rfl, ?_⟩
   repeat (first | (with_reducible exact b1.out) | (with_reducible refine ext_set ?_ (by simp <;> omega) _))
 · rw [hs] at HI
   have HS := Lib.hid (fun (w : World) h => stepped_any day pa le k id v A n c l w hA h hs hv2)
   rw [if_pos rfl]
   obtain ⟨O, hO⟩ : ∃ O, stepS day pa le l k id v = O := ⟨_, rfl⟩
   rw [hO] at HS ⊢
   clear hs hO
   go_enter Try.func47, Try.ntmps47
   go_wp2_with fail
   refine (HI.out _ ((H.out.ext (ext_alloc (ext_alloc (ext_alloc (ext_refl _) _) _) _) (Nat.le_refl _)).more (by simp; omega))).mono ?_
   rintro e w1 ⟨rfl, hb1⟩
   have z0 : w.heap.size + 1 + 1 < w1.heap.size := by (have := hb1.size; simp at this; omega)
   have z1 : w.heap.size + 1 < w1.heap.size := by omega
   have z2 : w.heap.size < w1.heap.size := by omega
   have b1 := Lib.hid (ext_trans (ext_alloc (ext_alloc (ext_alloc (ext_refl w) _) _) _) hb1)
   have HB1 := Lib.hid hb1
   obtain ⟨hc1, hf1⟩ := bcell hb1
   clear hb1
   go_wp2_with fail
   refine (HS.out _ ((H.out.ext b1.out (Nat.le_refl _)).more (by omega))).mono ?_
   rcases O with _ | ⟨D, L, P, Q⟩
   · rintro e w2 ⟨rfl, hb2⟩
     obtain ⟨hc2, hf2⟩ := bcell hb2
     have y0 : w.heap.size + 1 + 1 < w2.heap.size := by (have := hb2.size; omega)
     have b2 := Lib.hid (ext_trans b1.out hb2)
     clear hb2
     go_wp2
     refine bodyPost_ret (v := .tuple #[schV 0 none 0 0 0 0, .bool false]) (by simp [results, Try.results47, go_sem, *]) rfl ?_
     refine ⟨rfl, ?_⟩
     repeat (first | (with_reducible exact b2.out) | (with_reducible refine ext_set ?_ (by simp <;> omega) _))
   · rintro e w2 ⟨A2, c2, rfl, ho2, hb2⟩
     obtain ⟨hc2, hf2⟩ := bcell hb2
     have y0 : w.heap.size + 1 + 1 < w2.heap.size := by (have := hb2.size; omega)
     have b2 := Lib.hid (ext_trans b1.out hb2)
     have O2 := Lib.hid ho2
     clear hb2 ho2
     go_wp2
     refine bodyPost_ret (v := .tuple #[schV D A2 L.length c2 P Q, .bool true]) (by simp [results, Try.results47, go_sem, *]) rfl ?_
     refine ⟨A2, c2, rfl, own_base (base := w1.heap.size) ?_ (by omega), ?_⟩
     · repeat (first | (with_reducible exact O2.out) | (with_reducible refine own_set ?_ (by show w.heap.size + 1 + 1 < w1.heap.size; omega) _))
     · repeat (first | (with_reducible exact b2.out) | (with_reducible refine ext_set ?_ (by simp <;> omega) _))
end Go.Proofs.Ytclihlihaigddaa
namespace Go.Proofs.Ytclihlihaigddaa
open Go.RowKit
set_option linter.unusedVariables false
set_option linter.unusedSimpArgs false
set_option maxRecDepth 100000 in
set_option maxHeartbeats 4000000 in
theorem specStep_any (day pa le k id v : Int) (A : Option Addr) (n c : Nat) (l : List R5) (w : World) (hn : n ≤ 1048576) (hnc : n ≤ c) (hA : SlOk A n c) (h : Reads w w.heap.size 5 A n (rowsV l)) :
 Calls Try.prog 44 #[schV day A n c pa le, .agg #[.int .i64 k, .int .i64 id, .int .i64 v]] w (RetStp day pa le l k id v w) := by
 have HI := Lib.hid (fun (w : World) h => l25Good_any day pa le A n c l w hn h)
 have HT := Lib.hid (fun (w : World) h => l25Step_any day pa le k id v A n c l w hn h)
 have H := Lib.hid h
 unfold RetStp stpB
 clear h
 rcases hs : schB day l pa le with _ | _
 · rw [hs] at HI
   clear hs HT
   rw [if_neg (by simp)]
   go_enter Try.func44, Try.ntmps44
   go_wp2_with fail
   refine (HI.out _ ((H.out.ext (ext_alloc (ext_alloc (ext_alloc (ext_refl _) _) _) _) (Nat.le_refl _)).more (by simp; omega))).mono ?_
   rintro e w1 ⟨rfl, hb1⟩
   obtain ⟨hc1, hf1⟩ := bcell hb1
   have z0 : w.heap.size + 1 + 1 < w1.heap.size := by (have := hb1.size; simp at this; omega)
   have b1 := Lib.hid (ext_trans (ext_alloc (ext_alloc (ext_alloc (ext_refl w) _) _) _) hb1)
   clear hb1
   go_wp2
   refine bodyPost_ret (v := .tuple #[schV 0 none 0 0 0 0, .bool false]) (by simp [results, Try.results44, go_sem, *]) rfl ?_
   refine ⟨rfl, ?_⟩
   repeat (first | (with_reducible exact b1.out) | (with_reducible refine ext_set ?_ (by simp <;> omega) _))
 rw [hs] at HI
 rw [if_pos rfl]
 rcases hk : stepOk l k id v with _ | _
 · rw [stepS_no hk]
   rw [hk] at HT
   clear hk hs
   go_enter Try.func44, Try.ntmps44
   go_wp2_with fail
   refine (HI.out _ ((H.out.ext (ext_alloc (ext_alloc (ext_alloc (ext_refl _) _) _) _) (Nat.le_refl _)).more (by simp; omega))).mono ?_
   rintro e w1 ⟨rfl, hb1⟩
   obtain ⟨hc1, hf1⟩ := bcell hb1
   have z0 : w.heap.size + 1 + 1 < w1.heap.size := by (have := hb1.size; simp at this; omega)
   have z1 : w.heap.size + 1 < w1.heap.size := by omega
   have z2 : w.heap.size < w1.heap.size := by omega
   have b1 := Lib.hid (ext_trans (ext_alloc (ext_alloc (ext_alloc (ext_refl w) _) _) _) hb1)
   clear hb1
   go_wp2_with fail
   refine (HT.out _ ((H.out.ext b1.out (Nat.le_refl _)).more (by omega))).mono ?_
   rintro e w2 ⟨rfl, hb2⟩
   obtain ⟨hc2, hf2⟩ := bcell hb2
   have y0 : w.heap.size + 1 + 1 < w2.heap.size := by (have := hb2.size; omega)
   have b2 := Lib.hid (ext_trans b1.out hb2)
   clear hb2
   go_wp2
   refine bodyPost_ret (v := .tuple #[schV 0 none 0 0 0 0, .bool false]) (by simp [results, Try.results44, go_sem, *]) rfl ?_
   refine ⟨rfl, ?_⟩
   repeat (first | (with_reducible exact b2.out) | (with_reducible refine ext_set ?_ (by simp <;> omega) _))
 · have HM := Lib.hid (fun (w : World) h => l25Make_any day pa le k id v A n c l w hnc hA h hs hk)
   rw [hk] at HT
   obtain ⟨O, hO⟩ : ∃ O, stepS day pa le l k id v = O := ⟨_, rfl⟩
   rw [hO] at HM ⊢
   clear hs hO hk
   go_enter Try.func44, Try.ntmps44
   go_wp2_with fail
   refine (HI.out _ ((H.out.ext (ext_alloc (ext_alloc (ext_alloc (ext_refl _) _) _) _) (Nat.le_refl _)).more (by simp; omega))).mono ?_
   rintro e w1 ⟨rfl, hb1⟩
   obtain ⟨hc1, hf1⟩ := bcell hb1
   have z0 : w.heap.size + 1 + 1 < w1.heap.size := by (have := hb1.size; simp at this; omega)
   have z1 : w.heap.size + 1 < w1.heap.size := by omega
   have z2 : w.heap.size < w1.heap.size := by omega
   have b1 := Lib.hid (ext_trans (ext_alloc (ext_alloc (ext_alloc (ext_refl w) _) _) _) hb1)
   clear hb1
   go_wp2_with fail
   refine (HT.out _ ((H.out.ext b1.out (Nat.le_refl _)).more (by omega))).mono ?_
   rintro e w2 ⟨rfl, hb2⟩
   obtain ⟨hc2, hf2⟩ := bcell hb2
   have y0 : w.heap.size + 1 + 1 < w2.heap.size := by (have := hb2.size; omega)
   have y1 : w.heap.size + 1 < w2.heap.size := by omega
   have y2 : w.heap.size < w2.heap.size := by omega
   have b2 := Lib.hid (ext_trans b1.out hb2)
   clear hb2
   go_wp2_with fail
   refine (HM.out _ ((H.out.ext b2.out (Nat.le_refl _)).more (by omega))).mono ?_
   rintro e w3 ⟨A3, c3, D, P, Q, L, rfl, ho3, hx3, hb3⟩
   obtain ⟨hc3, hf3⟩ := bcell hb3
   have x0 : w.heap.size + 1 + 1 < w3.heap.size := by (have := hb3.size; omega)
   have b3 := Lib.hid (ext_trans b2.out hb3)
   have O3 := Lib.hid ho3
   have HX3 := Lib.hid hx3
   clear hb3 ho3 hx3
   rcases O with _ | ⟨D', L', P', Q'⟩
   · have hsome : (none : Option Sch4).isSome = false := rfl
     go_wp2
     refine bodyPost_ret (v := .tuple #[schV 0 none 0 0 0 0, .bool false]) (by simp [results, Try.results44, go_sem, *]) rfl ?_
     refine ⟨rfl, ?_⟩
     repeat (first | (with_reducible exact b3.out) | (with_reducible refine ext_set ?_ (by simp <;> omega) _) | (with_reducible refine ext_alloc ?_ _))
   · have he := HX3.out _ rfl
     injection he with h1 he
     injection he with h2 he
     injection he with h3 h4
     subst h1 h2 h3 h4
     clear HX3
     go_wp2
     refine bodyPost_ret (v := .tuple #[schV D' A3 L'.length c3 P' Q', .bool true]) (by simp [results, Try.results44, go_sem, *]) rfl ?_
     refine ⟨A3, c3, rfl, own_base (base := w2.heap.size) ?_ (by omega), ?_⟩
     · repeat (first | (with_reducible exact O3.out) | (with_reducible refine own_set ?_ (by show w.heap.size + 1 + 1 < w2.heap.size; omega) _) | (with_reducible refine World.ownsRow.alloc ?_ _))
     · repeat (first | (with_reducible exact b3.out) | (with_reducible refine ext_set ?_ (by simp <;> omega) _) | (with_reducible refine ext_alloc ?_ _))
end Go.Proofs.Ytclihlihaigddaa
namespace Go.Proofs.Ytclihlihaigddaa
open Go.RowKit
set_option linter.unusedVariables false
set_option linter.unusedSimpArgs false
def oD (o : Option Sch4) : Int := match o with | none => 0 | some (d, _, _, _) => d
def oL (o : Option Sch4) : List R5 := match o with | none => [] | some (_, l, _, _) => l
def oP (o : Option Sch4) : Int := match o with | none => 0 | some (_, _, p, _) => p
def oQ (o : Option Sch4) : Int := match o with | none => 0 | some (_, _, _, q) => q
theorem own_cap2 {w : World} {base e size n c : Nat} {A : Option Addr} {xs : List Value} (h : w.ownsRow base e size (.slice A n c) n xs) : n ≤ c := by
 rcases h.2 with ⟨h', _⟩ | ⟨g', cap', cur, h', _, hg, hnc, _, _, _⟩
 · injection h' with _ h1 h2; omega
 · injection h' with _ h1 h2; omega
/-- a school of the call's own and a bool come back, whatever the answer -/
def RetUni (D P Q : Int) (N : Nat) (L : List R5) (ok : Bool) (w : World) (e : Ending) (w' : World) : Prop :=
 ∃ A c, e = .returned (.tuple #[schV D A N c P Q, .bool ok]) ∧ w'.ownsRow w.heap.size 109 5 (.slice A N c) N (rowsV L) ∧ Below w.heap.size w w'
theorem retUni (o : Option Sch4) (w : World) (e : Ending) (w' : World) (h : RetSch o w e w') : RetUni (oD o) (oP o) (oQ o) (oL o).length (oL o) o.isSome w e w' := by
 rcases o with _ | ⟨d, l, p, q⟩
 · exact ⟨none, 0, h.1, World.ownsRow_nil _ _ _ _, h.2⟩
 · exact h
theorem oL_len (day pa le : Int) (l : List R5) (k id v : Int) : (oL (stpB day pa le l k id v)).length ≤ 8 := by
 unfold stpB
 split
 · unfold stepS
   rcases h : tryS day pa le l k id v with _ | q
   · simp [oL]
   · rw [Option.filter_some]
     split
     · rename_i hs; exact schB_len hs
     · simp [oL]
 · simp [oL]
theorem own_cap3 {w : World} {base e size n c : Nat} {A : Option Addr} {xs : List Value} (h : w.ownsRow base e size (.slice A n c) n xs) : n ≤ c := own_cap2 h
end Go.Proofs.Ytclihlihaigddaa
namespace Go.Proofs.Ytclihlihaigddaa
open Go.RowKit
set_option linter.unusedVariables false
set_option linter.unusedSimpArgs false
def gcStep (o : List Int) (r : R5) : List Int := o.set r.b.toNat (o.getD r.b.toNat 0 + 1)
def gcTo (l : List R5) (k : Nat) : List Int := (l.take k).foldl gcStep (List.replicate 11 0)
theorem gcTo_zero (l : List R5) : gcTo l 0 = List.replicate 11 0 := by simp [gcTo]
theorem gcTo_succ {l : List R5} {k : Nat} {r : R5} (h : l[k]? = some r) : gcTo l (k + 1) = gcStep (gcTo l k) r := by
 unfold gcTo
 rw [List.take_add_one, h, List.foldl_append]
 rfl
theorem set_sum : ∀ (o : List Int) (i : Nat) (z : Int), i < o.length → (o.set i (o.getD i 0 + z)).sum = o.sum + z := by
 intro o
 induction o with
 | nil => intro i z h; simp at h
 | cons x o ih =>
   intro i z h
   rcases i with _ | i
   · simp; omega
   · have := ih i z (by simpa using h)
     simp at this ⊢
     omega
theorem gc_inv {day pa le : Int} {l : List R5} (hs : schB day l pa le = true) : ∀ k, k ≤ l.length → (gcTo l k).length = 11 ∧ (gcTo l k).sum = k ∧ ∀ z ∈ gcTo l k, 0 ≤ z ∧ z ≤ k := by
 intro k
 induction k with
 | zero => intro _; rw [gcTo_zero]; exact ⟨by simp, by simp, fun z hz => by simp at hz; omega⟩
 | succ k ih =>
   intro hk
   obtain ⟨r, hr⟩ := list_split (l := l) (k := k) (by omega)
   obtain ⟨h1, h2, h3⟩ := ih (by omega)
   obtain ⟨_, ⟨b1, b2⟩, _⟩ := stu_bounds (sch_stu hs hr)
   rw [gcTo_succ hr]
   unfold gcStep
   refine ⟨by rw [List.length_set, h1], ?_, fun z hz => ?_⟩
   · rw [set_sum _ _ _ (by omega), h2]; omega
   · rcases List.mem_or_eq_of_mem_set hz with hz | hz
     · have := h3 z hz; omega
     · have hi : r.b.toNat < (gcTo l k).length := by omega
       have hg : (gcTo l k).getD r.b.toNat 0 = (gcTo l k)[r.b.toNat] := by simp [List.getD, hi]
       have := h3 _ (List.getElem_mem hi)
       rw [hg] at hz
       omega
def gcO (day pa le : Int) (l : List R5) : List Int := if schB day l pa le = true then gcTo l l.length else []
end Go.Proofs.Ytclihlihaigddaa
namespace Go.Proofs.Ytclihlihaigddaa
open Go.RowKit
set_option linter.unusedVariables false
set_option linter.unusedSimpArgs false
set_option maxRecDepth 100000 in
set_option maxHeartbeats 4000000 in
theorem implGc_any (day pa le : Int) (A : Option Addr) (n c : Nat) (l : List R5) (w : World) (hn : n ≤ 1048576) (h : Reads w w.heap.size 5 A n (rowsV l)) :
 Calls Try.prog 74 #[schV day A n c pa le] w (RetSliceB w 3 1 (gcO day pa le l).length (intsV (gcO day pa le l)) (schB day l pa le)) := by
 have hl := rows_len h
 have H := Lib.hid h
 have HL := Lib.hid hl
 have hI := Lib.hid (fun w h => isSchool_any day pa le A n c l w hn h)
 have hmk : ∀ w : World, (Instr.makeSlice 97 (.int .i64 11) (.int .i64 11)).run Try.prog w = .ok (.slice (some ⟨w.heap.size, 0, none⟩) 11 11) (w.alloc (.cells #[.int .i64 0, .int .i64 0, .int .i64 0, .int .i64 0, .int .i64 0, .int .i64 0, .int .i64 0, .int .i64 0, .int .i64 0, .int .i64 0, .int .i64 0] 3)) := fun _ => by kernel_rfl
 clear h hl
 rcases hs : schB day l pa le with _ | _
 · rw [hs] at hI
   have hE : gcO day pa le l = [] := by unfold gcO; rw [if_neg (by simp [hs])]
   rw [hE]
   clear hs hE hmk
   go_enter Try.func74, Try.ntmps74
   go_wp2_with fail
   refine (hI.out _ ((H.out.ext (ext_alloc (ext_refl _) _) (Nat.le_refl _)).more (by simp <;> omega))).mono ?_
   rintro e w1 ⟨rfl, hb1⟩
   have hw1 := Lib.hid (ext_trans (ext_alloc (ext_refl w) _) hb1)
   clear hb1
   go_wp2
   go_ret2
   exact ⟨none, 0, rfl, World.ownsRow_nil _ _ _ _, hw1.out⟩
 rw [hs] at hI
 have h8 := schB_len hs
 rw [HL.out] at h8
 have HST := Lib.hid (fun (k : Nat) (r : R5) (h : l[k]? = some r) => stu_bounds (sch_stu hs h))
 have HGI := Lib.hid (fun k hk => gc_inv hs k hk)
 have hE : gcO day pa le l = gcTo l n := by unfold gcO; rw [if_pos hs, HL.out]
 rw [hE]
 clear hs hE
 go_enter Try.func74, Try.ntmps74
 go_wp2_with fail
 refine (hI.out _ ((H.out.ext (ext_alloc (ext_refl _) _) (Nat.le_refl _)).more (by simp <;> omega))).mono ?_
 rintro e w1 ⟨rfl, hb1⟩
 have hw1 := Lib.hid (ext_trans (ext_alloc (ext_refl w) _) hb1)
 have BX : Hid (Blk w1 w.heap.size 24 #[.int .i64 day, .slice A n c, .int .i64 pa, .int .i64 le]) := Lib.hid ((Blk.new w _ _).ext hb1)
 have sX := BX.out.lt
 clear hb1
 have x1 := BX.out.c1
 go_wp2_with fail
 go_loopw [14] (fun i wr => ∃ k : Nat, k ≤ n ∧ i = .int .i64 k ∧ Hid (Blk wr w.heap.size 24 #[.int .i64 day, .slice A n c, .int .i64 pa, .int .i64 le]) ∧ Hid (Blk wr w1.heap.size 3 (intsV (gcTo l k)).toArray) ∧ Hid (Below w.heap.size w wr)) (fun i _ => n - (intOf i).toNat)
 case atStart => exact ⟨0, Nat.zero_le _, rfl, Lib.hid (BX.out.ext (ext_alloc (ext_refl _) _)), Lib.hid (by rw [gcTo_zero]; exact Blk.new w1 _ _), Lib.hid (ext_alloc hw1.out _)⟩
 case round =>
  clear x1 hmk
  obtain ⟨k, hk, rfl, HX, HO, HB⟩ := hrel
  have x1 := HX.out.c1
  have sX2 := HX.out.lt
  have sO := HO.out.lt
  by_cases hlt : k < n
  · obtain ⟨r, hr⟩ := list_split (l := l) (k := k) (by rw [HL.out]; exact hlt)
    obtain ⟨_, ⟨hb0, hb10⟩, _, _, _⟩ := HST.out k r hr
    obtain ⟨b, o, rfl, hbb, c0, c1, c2, c3, c4⟩ := rows_at (H.out.ext HB.out (Nat.le_refl _)) hr
    have hbw : b < wr.heap.size := Nat.lt_of_lt_of_le hbb HB.out.size
    have hlt' : (k : Int) < (n : Int) := by omega
    have hk0 : (0 : Int) ≤ (k : Int) := by omega
    obtain ⟨g1, _, g3⟩ := HGI.out k (by rw [HL.out]; omega)
    obtain ⟨j, hj⟩ := Int.eq_ofNat_of_zero_le hb0
    have hj11 : j < (gcTo l k).length := by omega
    obtain ⟨z, hz⟩ := list_split (l := gcTo l k) (k := j) hj11
    have hz2 := g3 z (List.mem_of_getElem? hz)
    have hzd : (gcTo l k).getD j 0 = z := by simp [List.getD, hz]
    have HARR : Hid ((intsV (gcTo l (k + 1))).toArray = (intsV (gcTo l k)).toArray.setIfInBounds j (.int .i64 (z + 1))) := Lib.hid (by
     rw [gcTo_succ hr]
     unfold gcStep
     rw [show r.b.toNat = j from by omega, hzd]
     simp [intsV, List.map_set])
    rw [hj] at c1
    have oj : wr.cell? ⟨w1.heap.size, j, none⟩ = some (.int .i64 z) := by rw [HO.out.cell j]; simp [intsV, hz]
    have foj := HO.out.frozen j
    have hj0 : (0 : Int) ≤ (j : Int) := by omega
    have hj1 : (j : Int) < 11 := by omega
    have hj2 : j < 11 := by omega
    have hne : b ≠ w1.heap.size := by have := hw1.out.size; omega
    have hne2 : w.heap.size ≠ w1.heap.size := by omega
    have s1 : w.heap.size ≤ w1.heap.size := hw1.out.size
    clear hr hz hzd g1 g3 hj11 hj
    go_wp2
    go_roundw
    case rel =>
     refine ⟨k + 1, by omega, by go_num, Lib.hid ((HX.out.set_far (p := ⟨w1.heap.size, j, none⟩) (by show w1.heap.size ≠ w.heap.size; omega) _).ext (ext_alloc (ext_refl _) _)), Lib.hid ?_, Lib.hid (ext_alloc (ext_set HB.out s1 _) _)⟩
     rw [HARR.out]
     exact (HO.out.set_ j _).ext (ext_alloc (ext_refl _) _)
    case measure => simp [intOf]; omega
  · obtain rfl : k = n := by omega
    obtain ⟨g1, _, _⟩ := HGI.out k (by rw [HL.out]; omega)
    have HG1 := Lib.hid g1
    have s1 : w.heap.size ≤ w1.heap.size := hw1.out.size
    clear g1
    go_wp2
    go_ret2
    rw [HG1.out]
    exact ⟨_, 11, rfl, Fill.done (g := w1.heap.size) ⟨_, HO.out, by simp [intsV, HG1.out], fun j _ => by simp⟩ s1 (by decide) (by simp [intsV, HG1.out]), HB.out⟩

set_option maxRecDepth 100000 in
set_option maxHeartbeats 4000000 in
theorem specGc_any (day pa le : Int) (A : Option Addr) (n c : Nat) (l : List R5) (w : World) (hn : n ≤ 1048576) (h : Reads w w.heap.size 5 A n (rowsV l)) :
 Calls Try.prog 75 #[schV day A n c pa le] w (RetSliceB w 3 1 (gcO day pa le l).length (intsV (gcO day pa le l)) (schB day l pa le)) := by
 have hl := rows_len h
 have H := Lib.hid h
 have HL := Lib.hid hl
 have hI := Lib.hid (fun w h => l25Good_any day pa le A n c l w hn h)
 have hmk : ∀ w : World, (Instr.makeSlice 97 (.int .i64 11) (.int .i64 11)).run Try.prog w = .ok (.slice (some ⟨w.heap.size, 0, none⟩) 11 11) (w.alloc (.cells #[.int .i64 0, .int .i64 0, .int .i64 0, .int .i64 0, .int .i64 0, .int .i64 0, .int .i64 0, .int .i64 0, .int .i64 0, .int .i64 0, .int .i64 0] 3)) := fun _ => by kernel_rfl
 clear h hl
 rcases hs : schB day l pa le with _ | _
 · rw [hs] at hI
   have hE : gcO day pa le l = [] := by unfold gcO; rw [if_neg (by simp [hs])]
   rw [hE]
   clear hs hE hmk
   go_enter Try.func75, Try.ntmps75
   go_wp2_with fail
   refine (hI.out _ ((H.out.ext (ext_alloc (ext_refl _) _) (Nat.le_refl _)).more (by simp <;> omega))).mono ?_
   rintro e w1 ⟨rfl, hb1⟩
   have hw1 := Lib.hid (ext_trans (ext_alloc (ext_refl w) _) hb1)
   clear hb1
   go_wp2
   go_ret2
   exact ⟨_, 0, rfl, own_base (own_lit0 w1 3 1) hw1.out.size, ext_alloc hw1.out _⟩
 rw [hs] at hI
 have h8 := schB_len hs
 rw [HL.out] at h8
 have HST := Lib.hid (fun (k : Nat) (r : R5) (h : l[k]? = some r) => stu_bounds (sch_stu hs h))
 have HGI := Lib.hid (fun k hk => gc_inv hs k hk)
 have hE : gcO day pa le l = gcTo l n := by unfold gcO; rw [if_pos hs, HL.out]
 rw [hE]
 clear hs hE
 go_enter Try.func75, Try.ntmps75
 go_wp2_with fail
 refine (hI.out _ ((H.out.ext (ext_alloc (ext_refl _) _) (Nat.le_refl _)).more (by simp <;> omega))).mono ?_
 rintro e w1 ⟨rfl, hb1⟩
 have hw1 := Lib.hid (ext_trans (ext_alloc (ext_refl w) _) hb1)
 have BX : Hid (Blk w1 w.heap.size 24 #[.int .i64 day, .slice A n c, .int .i64 pa, .int .i64 le]) := Lib.hid ((Blk.new w _ _).ext hb1)
 have sX := BX.out.lt
 clear hb1
 have x1 := BX.out.c1
 go_wp2_with fail
 go_loopw [5] (fun i wr => ∃ k : Nat, k ≤ n ∧ i = .int .i64 k ∧ Hid (Blk wr w.heap.size 24 #[.int .i64 day, .slice A n c, .int .i64 pa, .int .i64 le]) ∧ Hid (Blk wr w1.heap.size 3 (intsV (gcTo l k)).toArray) ∧ Hid (Below w.heap.size w wr)) (fun i _ => n - (intOf i).toNat)
 case atStart => exact ⟨0, Nat.zero_le _, rfl, Lib.hid (BX.out.ext (ext_alloc (ext_refl _) _)), Lib.hid (by rw [gcTo_zero]; exact Blk.new w1 _ _), Lib.hid (ext_alloc hw1.out _)⟩
 case round =>
  clear x1 hmk
  obtain ⟨k, hk, rfl, HX, HO, HB⟩ := hrel
  have x1 := HX.out.c1
  have sX2 := HX.out.lt
  have sO := HO.out.lt
  by_cases hlt : k < n
  · obtain ⟨r, hr⟩ := list_split (l := l) (k := k) (by rw [HL.out]; exact hlt)
    obtain ⟨_, ⟨hb0, hb10⟩, _, _, _⟩ := HST.out k r hr
    obtain ⟨b, o, rfl, hbb, c0, c1, c2, c3, c4⟩ := rows_at (H.out.ext HB.out (Nat.le_refl _)) hr
    have hbw : b < wr.heap.size := Nat.lt_of_lt_of_le hbb HB.out.size
    have hlt' : (k : Int) < (n : Int) := by omega
    have hk0 : (0 : Int) ≤ (k : Int) := by omega
    obtain ⟨g1, _, g3⟩ := HGI.out k (by rw [HL.out]; omega)
    obtain ⟨j, hj⟩ := Int.eq_ofNat_of_zero_le hb0
    have hj11 : j < (gcTo l k).length := by omega
    obtain ⟨z, hz⟩ := list_split (l := gcTo l k) (k := j) hj11
    have hz2 := g3 z (List.mem_of_getElem? hz)
    have hzd : (gcTo l k).getD j 0 = z := by simp [List.getD, hz]
    have HARR : Hid ((intsV (gcTo l (k + 1))).toArray = (intsV (gcTo l k)).toArray.setIfInBounds j (.int .i64 (z + 1))) := Lib.hid (by
     rw [gcTo_succ hr]
     unfold gcStep
     rw [show r.b.toNat = j from by omega, hzd]
     simp [intsV, List.map_set])
    rw [hj] at c1
    have oj : wr.cell? ⟨w1.heap.size, j, none⟩ = some (.int .i64 z) := by rw [HO.out.cell j]; simp [intsV, hz]
    have foj := HO.out.frozen j
    have hj0 : (0 : Int) ≤ (j : Int) := by omega
    have hj1 : (j : Int) < 11 := by omega
    have hj2 : j < 11 := by omega
    have hne : b ≠ w1.heap.size := by have := hw1.out.size; omega
    have hne2 : w.heap.size ≠ w1.heap.size := by omega
    have s1 : w.heap.size ≤ w1.heap.size := hw1.out.size
    clear hr hz hzd g1 g3 hj11 hj
    go_wp2
    go_roundw
    case rel =>
     refine ⟨k + 1, by omega, by go_num, Lib.hid (HX.out.set_far (p := ⟨w1.heap.size, j, none⟩) (by show w1.heap.size ≠ w.heap.size; omega) _), Lib.hid ?_, Lib.hid (ext_set HB.out s1 _)⟩
     rw [HARR.out]
     exact HO.out.set_ j _
    case measure => simp [intOf]; omega
  · obtain rfl : k = n := by omega
    obtain ⟨g1, _, _⟩ := HGI.out k (by rw [HL.out]; omega)
    have HG1 := Lib.hid g1
    have s1 : w.heap.size ≤ w1.heap.size := hw1.out.size
    clear g1
    go_wp2
    go_ret2
    rw [HG1.out]
    exact ⟨_, 11, rfl, Fill.done (g := w1.heap.size) ⟨_, HO.out, by simp [intsV, HG1.out], fun j _ => by simp⟩ s1 (by decide) (by simp [intsV, HG1.out]), HB.out⟩

end Go.Proofs.Ytclihlihaigddaa
namespace Go.Proofs.Ytclihlihaigddaa
open Go.RowKit
set_option linter.unusedVariables false
set_option linter.unusedSimpArgs false
theorem stpB_parts {day pa le : Int} {l : List R5} {k id v : Int} {s : Sch4} (h : stpB day pa le l k id v = some s) : schB day l pa le = true ∧ tryS day pa le l k id v = some s ∧ schB s.1 s.2.1 s.2.2.1 s.2.2.2 = true := by
 unfold stpB at h
 split at h
 · rename_i hs
   unfold stepS at h
   rcases ht : tryS day pa le l k id v with _ | y
   · rw [ht] at h; cases h
   · rw [ht, Option.filter_some] at h
     split at h
     · rename_i h2; injection h with h; subst h; exact ⟨hs, rfl, h2⟩
     · cases h
 · cases h
theorem try_kind {day pa le : Int} {l : List R5} {k id v : Int} {D P Q : Int} {L : List R5} (h : tryS day pa le l k id v = some (D, L, P, Q)) :
 (k = 1 ∧ D = day + v ∧ L = l ∧ P = pa ∧ Q = le) ∨ (k = 2 ∧ L = insS l id v day ∧ P = pa ∧ Q = le) ∨
 ((k = 3 ∨ k = 4 ∨ k = 5 ∨ k = 6) ∧ ∃ (i : Nat) (r : R5), findI l id = i ∧ l[i]? = some r ∧ r.a = id ∧ teach day pa le l i r k v = some (L, P, Q)) := by
 unfold tryS at h
 by_cases h1 : k = 1
 · rw [if_pos h1] at h
   split at h
   · cases h
   · simp only [Option.some.injEq, Prod.mk.injEq] at h
     exact .inl ⟨h1, h.1.symm, h.2.1.symm, h.2.2.1.symm, h.2.2.2.symm⟩
 rw [if_neg h1] at h
 by_cases h2 : k = 2
 · rw [if_pos h2] at h
   split at h
   · cases h
   · simp only [Option.some.injEq, Prod.mk.injEq] at h
     exact .inr (.inl ⟨h2, h.2.1.symm, h.2.2.1.symm, h.2.2.2.symm⟩)
 rw [if_neg h2] at h
 by_cases h3 : k = 3 ∨ k = 4 ∨ k = 5 ∨ k = 6
 · rw [if_pos h3] at h
   split at h
   · cases h
   · rcases findI_cases l id with ⟨e, _⟩ | ⟨i, r, e1, e2, e3, _⟩
     · omega
     · rw [e1] at h
       simp only [Int.toNat_natCast, e2] at h
       rcases ht : teach day pa le l i r k v with _ | ⟨L', P', Q'⟩
       · rw [ht] at h; cases h
       · rw [ht] at h
         simp only [Option.map_some, Option.some.injEq, Prod.mk.injEq] at h
         obtain ⟨_, g1, g2, g3⟩ := h
         subst g1 g2 g3
         exact .inr (.inr ⟨h3, i, r, e1, e2, e3, ht⟩)
 · rw [if_neg h3] at h
   cases h
theorem teach_kind {day pa le : Int} {l : List R5} {i : Nat} {r : R5} {k v : Int} {L : List R5} {P Q : Int} (hk : k = 3 ∨ k = 4 ∨ k = 5 ∨ k = 6) (hi : i < l.length) (h : teach day pa le l i r k v = some (L, P, Q)) :
 ((L.length : Int) + Q = (l.length : Int) + le) ∧ (P = pa ∨ (k = 4 ∧ 70 ≤ v ∧ 10 + 5 * r.b ≤ r.c ∧ r.b ≠ 10 ∧ P = pa + 1)) := by
 unfold teach at h
 rcases hk with rfl | rfl | rfl | rfl
 · rw [if_pos rfl] at h
   split at h
   · cases h
   · simp only [Option.some.injEq, Prod.mk.injEq] at h
     obtain ⟨h1, h2, h3⟩ := h
     subst h1 h2 h3
     exact ⟨by rw [List.length_set], .inl rfl⟩
 · rw [if_neg (by omega), if_pos rfl] at h
   split at h
   · cases h
   · rename_i hn
     split at h
     · rename_i hy
       simp only [Option.some.injEq, Prod.mk.injEq] at h
       obtain ⟨h1, h2, h3⟩ := h
       subst h1 h2 h3
       exact ⟨by rw [List.length_set], .inr ⟨rfl, hy.1, hy.2, fun e => hn (.inr (.inl e)), rfl⟩⟩
     · simp only [Option.some.injEq, Prod.mk.injEq] at h
       obtain ⟨h1, h2, h3⟩ := h
       subst h1 h2 h3
       exact ⟨by rw [List.length_set], .inl rfl⟩
 · rw [if_neg (by omega), if_neg (by omega), if_pos rfl] at h
   split at h
   · cases h
   · simp only [Option.some.injEq, Prod.mk.injEq] at h
     obtain ⟨h1, h2, h3⟩ := h
     subst h1 h2 h3
     exact ⟨by rw [List.length_set], .inl rfl⟩
 · rw [if_neg (by omega), if_neg (by omega), if_neg (by omega)] at h
   split at h
   · cases h
   · simp only [Option.some.injEq, Prod.mk.injEq] at h
     obtain ⟨h1, h2, h3⟩ := h
     subst h1 h2 h3
     refine ⟨?_, .inl rfl⟩
     rw [List.length_eraseIdx, if_pos hi]
     omega
/-- behind a step that is made: how many there are, and who went up -/
theorem step_facts {day pa le : Int} {l : List R5} {k id v : Int} {D P Q : Int} {L : List R5} (h : stpB day pa le l k id v = some (D, L, P, Q)) :
 schB D L P Q = true ∧ (pa < P → k = 4 ∧ 70 ≤ v ∧ hmO day pa le l id = some 0 ∧ P = pa + 1) ∧ (k ≠ 2 → (L.length : Int) + Q = (l.length : Int) + le) := by
 obtain ⟨hs, ht, hn⟩ := stpB_parts h
 refine ⟨hn, ?_⟩
 rcases try_kind ht with ⟨_, _, rfl, rfl, rfl⟩ | ⟨rfl, _, rfl, rfl⟩ | ⟨hk, i, r, e1, e2, e3, hte⟩
 · exact ⟨fun h => by omega, fun _ => rfl⟩
 · exact ⟨fun h => by omega, fun h => absurd rfl h⟩
 · have hi := (List.getElem?_eq_some_iff.1 e2).1
   obtain ⟨g1, g2⟩ := teach_kind hk hi hte
   refine ⟨fun hp => ?_, fun _ => g1⟩
   rcases g2 with g2 | ⟨g3, g4, g5, g6, g7⟩
   · omega
   · refine ⟨g3, g4, ?_, g7⟩
     rw [hm_hit hs e1 e2, if_neg g6, if_neg (by omega)]
theorem okTo_get {l : List R5} {n : Nat} (h : okTo l n = true) {k : Nat} (hk : k < n) : okAt l k = true := by
 rw [okTo, List.all_eq_true] at h
 exact h k (by simpa using hk)
theorem okAt_less {l : List R5} {k : Nat} {r s : R5} (h : okAt l (k + 1) = true) (hs : l[k]? = some s) (hr : l[k + 1]? = some r) : s.a < r.a := by
 simpa [okAt, hr, hs] using (show _ ∧ _ from by simpa [okAt, hr, hs] using h).2
theorem sch_okTo {day pa le : Int} {l : List R5} (h : schB day l pa le = true) : okTo l l.length = true := by
 simp only [schB, Bool.and_eq_true] at h
 exact h.2
theorem sorted_lt {l : List R5} (h : okTo l l.length = true) : ∀ (j i : Nat) (r s : R5), i < j → l[i]? = some s → l[j]? = some r → s.a < r.a := by
 intro j
 induction j with
 | zero => intro i r s hi; omega
 | succ j ih =>
   intro i r s hi hs hr
   have hj := (List.getElem?_eq_some_iff.1 hr).1
   obtain ⟨t, ht⟩ := list_split (l := l) (k := j) (by omega)
   have h1 := okAt_less (okTo_get h hj) ht hr
   by_cases e : i = j
   · subst e; rw [hs] at ht; injection ht with ht; rw [ht]; exact h1
   · have := ih i t s (by omega) hs ht; omega
theorem find_own {day pa le : Int} {l : List R5} (h : schB day l pa le = true) {i : Nat} {r : R5} (hr : l[i]? = some r) : findI l r.a = i := by
 have hs := sch_okTo h
 rcases findI_cases l r.a with ⟨_, h2⟩ | ⟨k, s, h1, h2, h3, _⟩
 · exact absurd rfl (h2 i r (List.getElem?_eq_some_iff.1 hr).1 hr)
 · rw [h1]
   rcases Nat.lt_trichotomy k i with hlt | rfl | hlt
   · have := sorted_lt hs i k r s hlt h2 hr; omega
   · rfl
   · have := sorted_lt hs k i s r hlt hr h2; omega
theorem okTo_set {l : List R5} {i : Nat} {r r' : R5} (h : okTo l l.length = true) (hr : l[i]? = some r) (ha : r'.a = r.a) (hb : stuB r' = true) : okTo (l.set i r') (l.set i r').length = true := by
 have hi := (List.getElem?_eq_some_iff.1 hr).1
 rw [List.length_set, okTo, List.all_eq_true]
 intro k hk
 have hk : k < l.length := by simpa using hk
 have hg := okTo_get h hk
 have key : ∀ (j : Nat) (x : R5), (l.set i r')[j]? = some x → ∃ y, l[j]? = some y ∧ y.a = x.a ∧ (stuB y = true → stuB x = true) := by
  intro j x hx
  rw [List.getElem?_set] at hx
  split at hx
  · rename_i e
    subst e
    injection hx with hx
    subst hx
    exact ⟨r, hr, ha.symm, fun _ => hb⟩
  · exact ⟨x, hx, rfl, id⟩
 obtain ⟨x, hx⟩ := list_split (l := l.set i r') (k := k) (by simpa using hk)
 obtain ⟨y, hy, hya, hyb⟩ := key k x hx
 rcases k with _ | k
 · have : stuB y = true := by simpa [okAt, hy] using hg
   simp [okAt, hx, hyb this]
 · obtain ⟨x0, hx0⟩ := list_split (l := l.set i r') (k := k) (by rw [List.length_set]; omega)
   obtain ⟨y0, hy0, hya0, _⟩ := key k x0 hx0
   have h2 : stuB y = true ∧ y0.a < y.a := by simpa [okAt, hy, hy0] using hg
   simp [okAt, hx, hx0, hyb h2.1]
   omega
/-- who is ready -/
theorem ready_facts {day pa le : Int} {l : List R5} (hs : schB day l pa le = true) {r : R5} (hr : r ∈ l) (hy : readyR day r = true) :
 hmO day pa le l r.a = some 0 ∧ r.a ∉ selB (unpR day) day pa le l ∧ (pa < 9999 → ∃ L : List R5, L.length = l.length ∧ stpB day pa le l 4 r.a 70 = some (day, L, pa + 1, le)) := by
 obtain ⟨i, hi⟩ := List.mem_iff_getElem?.1 hr
 have hf := find_own hs hi
 simp only [readyR, Bool.and_eq_true, decide_eq_true_eq] at hy
 obtain ⟨⟨y1, y2⟩, y3⟩ := hy
 have hsb := schB_mem hs hr
 obtain ⟨b1, b2, b3, b4, b5⟩ := stu_bounds hsb
 refine ⟨?_, ?_, fun hp => ?_⟩
 · rw [hm_hit hs hf hi, if_neg (by omega), if_neg (by omega)]
 · unfold selB
   rw [if_pos hs, List.mem_map]
   rintro ⟨s, h1, h2⟩
   obtain ⟨h3, h4⟩ := List.mem_filter.1 h1
   obtain ⟨j, hj⟩ := List.mem_iff_getElem?.1 h3
   have hf2 := find_own hs hj
   rw [h2, hf] at hf2
   have : i = j := by omega
   subst this
   rw [hi] at hj
   injection hj with hj
   subst hj
   simp only [unpR, decide_eq_true_eq] at h4
   omega
 · refine ⟨l.set i ⟨r.a, r.b + 1, 0, r.d, 0⟩, List.length_set, ?_⟩
   have hin : inB 70 0 100 = true := by decide
   have ht : teach day pa le l i r 4 70 = some (l.set i ⟨r.a, r.b + 1, 0, r.d, 0⟩, pa + 1, le) := by
    unfold teach
    rw [if_neg (by omega), if_pos rfl, if_neg (by rw [hin]; simp; omega), if_pos ⟨by omega, y3⟩]
   have hok := okTo_set (r' := ⟨r.a, r.b + 1, 0, r.d, 0⟩) (sch_okTo hs) hi rfl (by simp only [stuB, Bool.and_eq_true, inB_iff]; omega)
   have hs2 : schB day (l.set i ⟨r.a, r.b + 1, 0, r.d, 0⟩) (pa + 1) le = true := by
    have h2 := hs
    simp only [schB, Bool.and_eq_true, decide_eq_true_eq, inB_iff] at h2 ⊢
    obtain ⟨⟨⟨⟨c1, c2⟩, c3⟩, c4⟩, _⟩ := h2
    exact ⟨⟨⟨⟨c1, by rw [List.length_set]; exact c2⟩, by omega⟩, c4⟩, hok⟩
   unfold stpB
   rw [if_pos hs, stepS_t (.inr (.inl rfl)) hf hi, ht]
   show Option.filter _ (some (day, l.set i ⟨r.a, r.b + 1, 0, r.d, 0⟩, pa + 1, le)) = _
   rw [Option.filter_some, if_pos hs2]
theorem sel_mem {p : R5 → Bool} {day pa le : Int} {l : List R5} {z : Int} (hs : schB day l pa le = true) (h : z ∈ selB p day pa le l) : ∃ r ∈ l, p r = true ∧ r.a = z := by
 unfold selB at h
 rw [if_pos hs, List.mem_map] at h
 obtain ⟨r, h1, h2⟩ := h
 obtain ⟨h3, h4⟩ := List.mem_filter.1 h1
 exact ⟨r, h3, h4, h2⟩
end Go.Proofs.Ytclihlihaigddaa
