/- The reference makes a step, whole; StepSchool: program and reference. -/
import Derived.Test.YtclihlihaigddaaVScVf
import Derived.Test.YtclihlihaigddaaVScVg
import Derived.Test.YtclihlihaigddaaVScVh
import Derived.Test.YtclihlihaigddaaVScVi
import Derived.Test.YtclihlihaigddaaVScVj
import Derived.Test.YtclihlihaigddaaVScVb
import Derived.Test.YtclihlihaigddaaVM5
import Derived.Test.YtclihlihaigddaaVParS
namespace Go.Proofs.Ytclihlihaigddaa
open Go.RowKit
set_option linter.unusedVariables false
set_option linter.unusedSimpArgs false
set_option maxRecDepth 100000 in
set_option maxHeartbeats 4000000 in
theorem l25Make_far (day pa le id v : Int) (A : Option Addr) (n c : Nat) (l : List R5) (w : World) (hn : n ≤ 8) (hnc : n ≤ c) (hA : SlOk A n c) (h : Reads w w.heap.size 5 A n (rowsV l)) (hv : 4000 - day < v) (hday : 0 ≤ day ∧ day ≤ 4000) :
    Calls Try.prog 110 #[schV day A n c pa le, .agg #[.int .i64 1, .int .i64 id, .int .i64 v]] w (RetMake none w) := by
  have hgt : decide (4000 - day < v) = true := by simpa using hv
  have H := Lib.hid h
  have HL := Lib.hid (rows_len h)
  have HA := Lib.hid (fun w h => l25Own_any day pa le A n c l w (by omega) hA h)
  have HF := Lib.hid (fun (w : World) h => l25Find_any day pa le id A n c l w (by omega) h)
  obtain ⟨zf, hzf⟩ : ∃ zf, findI l id = zf := ⟨_, rfl⟩
  rw [hzf] at HF
  clear hzf
  clear h
  go_enter Try.func110, Try.ntmps110
  go_wp2_with fail
  refine (HA.out _ ((H.out.ext (ext_alloc (ext_alloc (ext_alloc (ext_refl _) _) _) _) (Nat.le_refl _)).more (by simp; omega))).mono ?_
  rintro e w1 ⟨A1, c1, rfl, hown, hb1⟩
  have z0 : w.heap.size + 1 + 1 < w1.heap.size := by (have := hb1.size; simp at this; omega)
  have z1 : w.heap.size + 1 < w1.heap.size := by omega
  have z2 : w.heap.size < w1.heap.size := by omega
  have BX : Hid (Blk w1 w.heap.size 24 #[.int .i64 day, .slice A n c, .int .i64 pa, .int .i64 le]) := Lib.hid (((Blk.new w _ _).ext (ext_alloc (ext_alloc (ext_refl _) _) _)).ext hb1)
  have BY : Hid (Blk w1 (w.heap.size + 1) 74 #[.int .i64 1, .int .i64 id, .int .i64 v]) := Lib.hid (by
    have := ((Blk.new (w.alloc (.cells #[.int .i64 day, .slice A n c, .int .i64 pa, .int .i64 le] 24)) #[.int .i64 1, .int .i64 id, .int .i64 v] 74).ext (ext_alloc (ext_refl _) (.cells #[.int .i64 0, .slice none 0 0, .int .i64 0, .int .i64 0] 24))).ext hb1
    simpa using this)
  have BR : Hid (Blk w1 (w.heap.size + 1 + 1) 24 #[.int .i64 0, .slice none 0 0, .int .i64 0, .int .i64 0]) := Lib.hid (by
    have := (Blk.new ((w.alloc (.cells #[.int .i64 day, .slice A n c, .int .i64 pa, .int .i64 le] 24)).alloc (.cells #[.int .i64 1, .int .i64 id, .int .i64 v] 74)) #[.int .i64 0, .slice none 0 0, .int .i64 0, .int .i64 0] 24).ext hb1
    simpa using this)
  have hbw := Lib.hid (ext_trans (ext_alloc (ext_alloc (ext_alloc (ext_refl w) _) _) _) hb1)
  have HO : Hid (w1.ownsRow w.heap.size 109 5 (.slice A1 n c1) n (rowsV l)) := Lib.hid (own_base hown (by simp; omega))
  clear hb1 hown
  have x0 : w1.cell? ⟨w.heap.size, 0, none⟩ = some (.int .i64 day) := BX.out.cell 0
  have fx0 := BX.out.frozen 0
  have x1 : w1.cell? ⟨w.heap.size, 1, none⟩ = some (.slice A n c) := BX.out.cell 1
  have fx1 := BX.out.frozen 1
  have x2 : w1.cell? ⟨w.heap.size, 2, none⟩ = some (.int .i64 pa) := BX.out.cell 2
  have fx2 := BX.out.frozen 2
  have x3 : w1.cell? ⟨w.heap.size, 3, none⟩ = some (.int .i64 le) := BX.out.cell 3
  have fx3 := BX.out.frozen 3
  have y0 : w1.cell? ⟨w.heap.size + 1, 0, none⟩ = some (.int .i64 1) := BY.out.cell 0
  have fy0 := BY.out.frozen 0
  have y1 : w1.cell? ⟨w.heap.size + 1, 1, none⟩ = some (.int .i64 id) := BY.out.cell 1
  have fy1 := BY.out.frozen 1
  have y2 : w1.cell? ⟨w.heap.size + 1, 2, none⟩ = some (.int .i64 v) := BY.out.cell 2
  have fy2 := BY.out.frozen 2
  have r0 : w1.cell? ⟨w.heap.size + 1 + 1, 0, none⟩ = some (.int .i64 0) := BR.out.cell 0
  have fr0 := BR.out.frozen 0
  have r1 : w1.cell? ⟨w.heap.size + 1 + 1, 1, none⟩ = some (.slice none 0 0) := BR.out.cell 1
  have fr1 := BR.out.frozen 1
  have r2 : w1.cell? ⟨w.heap.size + 1 + 1, 2, none⟩ = some (.int .i64 0) := BR.out.cell 2
  have fr2 := BR.out.frozen 2
  have r3 : w1.cell? ⟨w.heap.size + 1 + 1, 3, none⟩ = some (.int .i64 0) := BR.out.cell 3
  have fr3 := BR.out.frozen 3
  go_wp2_with fail
  refine (HF.out _ (((H.out.ext hbw.out (Nat.le_refl _)).ext (ext_alloc (ext_refl _) _) (by omega)).more (by simp; omega))).mono ?_
  rintro e w5 ⟨rfl, hb5⟩
  have z5 : w1.heap.size < w5.heap.size := by (have := hb5.size; simp at this; omega)
  have z50 : w.heap.size + 1 + 1 < w5.heap.size := by omega
  have z51 : w.heap.size + 1 < w5.heap.size := by omega
  have z52 : w.heap.size < w5.heap.size := by omega
  have b5 := Lib.hid (ext_trans hbw.out (ext_trans (ext_alloc (ext_refl _) _) hb5))
  have O5 := Lib.hid (own_ext HO.out (ext_trans (ext_alloc (ext_refl _) _) hb5))
  have GX5 := Lib.hid (BX.out.ext (ext_trans (ext_alloc (ext_refl _) _) hb5))
  have GY5 := Lib.hid (BY.out.ext (ext_trans (ext_alloc (ext_refl _) _) hb5))
  have GR5 := Lib.hid (BR.out.ext (ext_trans (ext_alloc (ext_refl _) _) hb5))
  have GT5 : Hid (Blk w5 w1.heap.size 24 #[.int .i64 day, .slice A1 n c1, .int .i64 pa, .int .i64 le]) := Lib.hid ((Blk.new w1 _ _).ext hb5)
  clear hb5 x0 x1 x2 x3 fx0 fx1 fx2 fx3 y0 y1 y2 fy0 fy1 fy2 r0 r1 r2 r3 fr0 fr1 fr2 fr3
  have p0 : w5.cell? ⟨w.heap.size, 0, none⟩ = some (.int .i64 day) := GX5.out.cell 0
  have fp0 := GX5.out.frozen 0
  have p1 : w5.cell? ⟨w.heap.size, 1, none⟩ = some (.slice A n c) := GX5.out.cell 1
  have fp1 := GX5.out.frozen 1
  have p2 : w5.cell? ⟨w.heap.size, 2, none⟩ = some (.int .i64 pa) := GX5.out.cell 2
  have fp2 := GX5.out.frozen 2
  have p3 : w5.cell? ⟨w.heap.size, 3, none⟩ = some (.int .i64 le) := GX5.out.cell 3
  have fp3 := GX5.out.frozen 3
  have m0 : w5.cell? ⟨w.heap.size + 1, 0, none⟩ = some (.int .i64 1) := GY5.out.cell 0
  have fm0 := GY5.out.frozen 0
  have m1 : w5.cell? ⟨w.heap.size + 1, 1, none⟩ = some (.int .i64 id) := GY5.out.cell 1
  have fm1 := GY5.out.frozen 1
  have m2 : w5.cell? ⟨w.heap.size + 1, 2, none⟩ = some (.int .i64 v) := GY5.out.cell 2
  have fm2 := GY5.out.frozen 2
  have s0 : w5.cell? ⟨w.heap.size + 1 + 1, 0, none⟩ = some (.int .i64 0) := GR5.out.cell 0
  have fs0 := GR5.out.frozen 0
  have s1 : w5.cell? ⟨w.heap.size + 1 + 1, 1, none⟩ = some (.slice none 0 0) := GR5.out.cell 1
  have fs1 := GR5.out.frozen 1
  have s2 : w5.cell? ⟨w.heap.size + 1 + 1, 2, none⟩ = some (.int .i64 0) := GR5.out.cell 2
  have fs2 := GR5.out.frozen 2
  have s3 : w5.cell? ⟨w.heap.size + 1 + 1, 3, none⟩ = some (.int .i64 0) := GR5.out.cell 3
  have fs3 := GR5.out.frozen 3
  have t0 : w5.cell? ⟨w1.heap.size, 0, none⟩ = some (.int .i64 day) := GT5.out.cell 0
  have ft0 := GT5.out.frozen 0
  have t1 : w5.cell? ⟨w1.heap.size, 1, none⟩ = some (.slice A1 n c1) := GT5.out.cell 1
  have ft1 := GT5.out.frozen 1
  have t2 : w5.cell? ⟨w1.heap.size, 2, none⟩ = some (.int .i64 pa) := GT5.out.cell 2
  have ft2 := GT5.out.frozen 2
  have t3 : w5.cell? ⟨w1.heap.size, 3, none⟩ = some (.int .i64 le) := GT5.out.cell 3
  have ft3 := GT5.out.frozen 3
  go_wp2
  refine bodyPost_ret (v := .tuple #[schV day A1 n c1 pa le, .bool false]) (by simp [results, Try.results110, go_sem, *]) rfl ?_
  have hne := own_nb O5.out GR5.out (by decide)
  refine ⟨A1, c1, day, pa, le, l, ?_, ?_, (fun x hx => by cases hx), ?_⟩
  · rw [HL.out]; rfl
  · rw [HL.out]
    iterate 4 refine own_set_nb ?_ hne _
    exact O5.out
  · iterate 4 refine ext_set ?_ (by show w.heap.size ≤ w.heap.size + 1 + 1; omega) _
    exact b5.out

theorem teach3 {day pa le : Int} {l : List R5} {i : Nat} {r : R5} {v : Int} (hv : inB v 1 20 = true) : ((teach day pa le l i r 3 v).map fun q => (day, q.1, q.2.1, q.2.2)).filter (fun q => schB q.1 q.2.1 q.2.2.1 q.2.2.2) =
    if chgB r 3 day = true then (if schB day (l.set i (chgR r 3 v day)) pa le = true then some (day, l.set i (chgR r 3 v day), pa, le) else none) else none := by
  by_cases hd : r.d < day
  · simp [teach, hd, chgB, show ¬ day ≤ r.d by omega]
  · simp [teach, hd, hv, chgB, chgR, show day ≤ r.d by omega, Option.filter_some]
theorem teach5 {day pa le : Int} {l : List R5} {i : Nat} {r : R5} {v : Int} (hv : inB v 1 365 = true) : ((teach day pa le l i r 5 v).map fun q => (day, q.1, q.2.1, q.2.2)).filter (fun q => schB q.1 q.2.1 q.2.2.1 q.2.2.2) =
    if chgB r 5 day = true then (if schB day (l.set i (chgR r 5 v day)) pa le = true then some (day, l.set i (chgR r 5 v day), pa, le) else none) else none := by
  simp [teach, hv, chgB, chgR, Option.filter_some]
theorem teach4 {day pa le : Int} {l : List R5} {i : Nat} {r : R5} {v : Int} (hv : inB v 0 100 = true) (hs : stuB r = true) : ((teach day pa le l i r 4 v).map fun q => (day, q.1, q.2.1, q.2.2)).filter (fun q => schB q.1 q.2.1 q.2.2.1 q.2.2.2) =
    if chgB r 4 day = true then (if schB day (l.set i (chgR r 4 v day)) (if passB r v = true then pa + 1 else pa) le = true then some (day, l.set i (chgR r 4 v day), (if passB r v = true then pa + 1 else pa), le) else none) else none := by
  have hb := (stu_bounds hs).2.1
  by_cases hd : r.d < day
  · simp [teach, hd, chgB, show ¬ day ≤ r.d by omega]
  · by_cases h10 : r.b = 10
    · simp [teach, h10, chgB]
    · have hlt : r.b < 10 := by omega
      by_cases hp : 70 ≤ v ∧ 10 + 5 * r.b ≤ r.c
      · simp [teach, hd, h10, hv, hp, chgB, chgR, passB, hlt, show day ≤ r.d by omega, Option.filter_some]
      · have hpb : passB r v = false := by
          rw [Bool.eq_false_iff]; intro h; simp [passB] at h; exact hp h
        simp [teach, hd, h10, hv, hp, chgB, chgR, hpb, hlt, show day ≤ r.d by omega, Option.filter_some]
theorem teach6 {day pa le : Int} {l : List R5} {i : Nat} {r : R5} : ((teach day pa le l i r 6 0).map fun q => (day, q.1, q.2.1, q.2.2)).filter (fun q => schB q.1 q.2.1 q.2.2.1 q.2.2.2) =
    if schB day (l.eraseIdx i) pa (le + 1) = true then some (day, l.eraseIdx i, pa, le + 1) else none := by
  simp [teach, Option.filter_some]
theorem l25Make_any (day pa le k id v : Int) (A : Option Addr) (n c : Nat) (l : List R5) (w : World) (hnc : n ≤ c) (hA : SlOk A n c) (h : Reads w w.heap.size 5 A n (rowsV l)) (hs : schB day l pa le = true) (hok : stepOk l k id v = true) :
    Calls Try.prog 110 #[schV day A n c pa le, .agg #[.int .i64 k, .int .i64 id, .int .i64 v]] w (RetMake (stepS day pa le l k id v) w) := by
  have hn : n ≤ 8 := by have := schB_len hs; have := rows_len h; omega
  have hday := schB_day hs
  have hpl := schB_pa hs
  by_cases h1 : k = 1
  · subst h1
    have hv : id = 0 ∧ 1 ≤ v := by simpa [stepOk] using hok
    rw [stepS_1 hok]
    by_cases hf : v ≤ 4000 - day
    · exact l25Make_wait day pa le id v A n c l w hn hnc hA h hv.2 hday hf
    · rw [if_neg (by intro hh; have := schB_day hh; omega)]
      exact l25Make_far day pa le id v A n c l w hn hnc hA h (by omega) hday
  by_cases h2 : k = 2
  · subst h2
    rw [stepS_2 hok]
    exact l25Make_enrol day pa le id v A n c l w hn hnc hA h
  have h36 : k = 3 ∨ k = 4 ∨ k = 5 ∨ k = 6 := by
    by_cases h3 : k = 3
    · exact .inl h3
    by_cases h4 : k = 4
    · exact .inr (.inl h4)
    by_cases h5 : k = 5
    · exact .inr (.inr (.inl h5))
    · simp [stepOk, h1, h2, h3, h4, h5] at hok
      exact .inr (.inr (.inr hok.1.1))
  obtain ⟨i, r, hf, hr, _⟩ := stepOk_find hok h36
  have hst := schB_mem hs (List.mem_of_getElem? hr)
  rw [stepS_t h36 hf hr]
  rcases h36 with rfl | rfl | rfl | rfl
  · have hv : inB v 1 20 = true := by simp [stepOk] at hok; exact hok.2
    rw [teach3 hv]
    exact l25Make_3 day pa le id v A n c l w hn hnc hA h i r hf hr hst hday hpl.1 (inB_iff.1 hv)
  · have hv : inB v 0 100 = true := by simp [stepOk] at hok; exact hok.2
    rw [teach4 hv hst]
    rcases hp : passB r v with _ | _
    · simpa using l25Make_4f day pa le id v A n c l w hn hnc hA h i r hf hr hst hday hpl.1 (inB_iff.1 hv) hp
    · simpa using l25Make_4p day pa le id v A n c l w hn hnc hA h i r hf hr hst hday hpl.1 (inB_iff.1 hv) hp
  · have hv : inB v 1 365 = true := by simp [stepOk] at hok; exact hok.2
    rw [teach5 hv]
    exact l25Make_5 day pa le id v A n c l w hn hnc hA h i r hf hr hst hday hpl.1 (inB_iff.1 hv)
  · have hv : v = 0 := by simp [stepOk] at hok; exact hok.2
    subst hv
    rw [teach6]
    exact l25Make_6 day pa le id 0 A n c l w hn hnc hA h i r hf hr hpl.2
end Go.Proofs.Ytclihlihaigddaa
namespace Go.Proofs.Ytclihlihaigddaa
open Go.RowKit
set_option linter.unusedVariables false
set_option linter.unusedSimpArgs false
def RetStp (day pa le : Int) (l : List R5) (k id v : Int) (w : World) (e : Ending) (w' : World) : Prop := RetSch (stpB day pa le l k id v) w e w'
set_option maxRecDepth 100000 in
set_option maxHeartbeats 4000000 in
theorem implStep_any (day pa le k id v : Int) (A : Option Addr) (n c : Nat) (l : List R5) (w : World) (hn : n ≤ 1048576) (hA : SlOk A n c) (h : Reads w w.heap.size 5 A n (rowsV l)) (hv2 : v ≤ 9223372036854775807) :
    Calls Try.prog 47 #[schV day A n c pa le, .agg #[.int .i64 k, .int .i64 id, .int .i64 v]] w (RetStp day pa le l k id v w) := by
  have HI := Lib.hid (fun (w : World) h => isSchool_any day pa le A n c l w hn h)
  have H := Lib.hid h
  unfold RetStp stpB
  clear h
  rcases hs : schB day l pa le with _ | _
  · rw [hs] at HI
    clear hs
    rw [if_neg (by simp)]
    go_enter Try.func47, Try.ntmps47
    go_wp2_with fail
    refine (HI.out _ ((H.out.ext (ext_alloc (ext_alloc (ext_alloc (ext_refl _) _) _) _) (Nat.le_refl _)).more (by simp; omega))).mono ?_
    rintro e w1 ⟨rfl, hb1⟩
    obtain ⟨hc1, hf1⟩ := bcell hb1
    have z0 : w.heap.size + 1 + 1 < w1.heap.size := by (have := hb1.size; simp at this; omega)
    have b1 := Lib.hid (ext_trans (ext_alloc (ext_alloc (ext_alloc (ext_refl w) _) _) _) hb1)
    clear hb1
    go_wp2
    refine bodyPost_ret (v := .tuple #[schV 0 none 0 0 0 0, .bool false]) (by simp [results, Try.results47, go_sem, *]) rfl ?_
    refine ⟨rfl, ?_⟩
    repeat (first | (with_reducible exact b1.out) | (with_reducible refine ext_set ?_ (by simp <;> omega) _))
  · rw [hs] at HI
    have HS := Lib.hid (fun (w : World) h => stepped_any day pa le k id v A n c l w hA h hs hv2)
    rw [if_pos rfl]
    obtain ⟨O, hO⟩ : ∃ O, stepS day pa le l k id v = O := ⟨_, rfl⟩
    rw [hO] at HS ⊢
    clear hs hO
    go_enter Try.func47, Try.ntmps47
    go_wp2_with fail
    refine (HI.out _ ((H.out.ext (ext_alloc (ext_alloc (ext_alloc (ext_refl _) _) _) _) (Nat.le_refl _)).more (by simp; omega))).mono ?_
    rintro e w1 ⟨rfl, hb1⟩
    have z0 : w.heap.size + 1 + 1 < w1.heap.size := by (have := hb1.size; simp at this; omega)
    have z1 : w.heap.size + 1 < w1.heap.size := by omega
    have z2 : w.heap.size < w1.heap.size := by omega
    have b1 := Lib.hid (ext_trans (ext_alloc (ext_alloc (ext_alloc (ext_refl w) _) _) _) hb1)
    have HB1 := Lib.hid hb1
    obtain ⟨hc1, hf1⟩ := bcell hb1
    clear hb1
    go_wp2_with fail
    refine (HS.out _ ((H.out.ext b1.out (Nat.le_refl _)).more (by omega))).mono ?_
    rcases O with _ | ⟨D, L, P, Q⟩
    · rintro e w2 ⟨rfl, hb2⟩
      obtain ⟨hc2, hf2⟩ := bcell hb2
      have y0 : w.heap.size + 1 + 1 < w2.heap.size := by (have := hb2.size; omega)
      have b2 := Lib.hid (ext_trans b1.out hb2)
      clear hb2
      go_wp2
      refine bodyPost_ret (v := .tuple #[schV 0 none 0 0 0 0, .bool false]) (by simp [results, Try.results47, go_sem, *]) rfl ?_
      refine ⟨rfl, ?_⟩
      repeat (first | (with_reducible exact b2.out) | (with_reducible refine ext_set ?_ (by simp <;> omega) _))
    · rintro e w2 ⟨A2, c2, rfl, ho2, hb2⟩
      obtain ⟨hc2, hf2⟩ := bcell hb2
      have y0 : w.heap.size + 1 + 1 < w2.heap.size := by (have := hb2.size; omega)
      have b2 := Lib.hid (ext_trans b1.out hb2)
      have O2 := Lib.hid ho2
      clear hb2 ho2
      go_wp2
      refine bodyPost_ret (v := .tuple #[schV D A2 L.length c2 P Q, .bool true]) (by simp [results, Try.results47, go_sem, *]) rfl ?_
      refine ⟨A2, c2, rfl, own_base (base := w1.heap.size) ?_ (by omega), ?_⟩
      · repeat (first | (with_reducible exact O2.out) | (with_reducible refine own_set ?_ (by show w.heap.size + 1 + 1 < w1.heap.size; omega) _))
      · repeat (first | (with_reducible exact b2.out) | (with_reducible refine ext_set ?_ (by simp <;> omega) _))
end Go.Proofs.Ytclihlihaigddaa
namespace Go.Proofs.Ytclihlihaigddaa
open Go.RowKit
set_option linter.unusedVariables false
set_option linter.unusedSimpArgs false
set_option maxRecDepth 100000 in
set_option maxHeartbeats 4000000 in
theorem specStep_any (day pa le k id v : Int) (A : Option Addr) (n c : Nat) (l : List R5) (w : World) (hn : n ≤ 1048576) (hnc : n ≤ c) (hA : SlOk A n c) (h : Reads w w.heap.size 5 A n (rowsV l)) :
    Calls Try.prog 44 #[schV day A n c pa le, .agg #[.int .i64 k, .int .i64 id, .int .i64 v]] w (RetStp day pa le l k id v w) := by
  have HI := Lib.hid (fun (w : World) h => l25Good_any day pa le A n c l w hn h)
  have HT := Lib.hid (fun (w : World) h => l25Step_any day pa le k id v A n c l w hn h)
  have H := Lib.hid h
  unfold RetStp stpB
  clear h
  rcases hs : schB day l pa le with _ | _
  · rw [hs] at HI
    clear hs HT
    rw [if_neg (by simp)]
    go_enter Try.func44, Try.ntmps44
    go_wp2_with fail
    refine (HI.out _ ((H.out.ext (ext_alloc (ext_alloc (ext_alloc (ext_refl _) _) _) _) (Nat.le_refl _)).more (by simp; omega))).mono ?_
    rintro e w1 ⟨rfl, hb1⟩
    obtain ⟨hc1, hf1⟩ := bcell hb1
    have z0 : w.heap.size + 1 + 1 < w1.heap.size := by (have := hb1.size; simp at this; omega)
    have b1 := Lib.hid (ext_trans (ext_alloc (ext_alloc (ext_alloc (ext_refl w) _) _) _) hb1)
    clear hb1
    go_wp2
    refine bodyPost_ret (v := .tuple #[schV 0 none 0 0 0 0, .bool false]) (by simp [results, Try.results44, go_sem, *]) rfl ?_
    refine ⟨rfl, ?_⟩
    repeat (first | (with_reducible exact b1.out) | (with_reducible refine ext_set ?_ (by simp <;> omega) _))
  rw [hs] at HI
  rw [if_pos rfl]
  rcases hk : stepOk l k id v with _ | _
  · rw [stepS_no hk]
    rw [hk] at HT
    clear hk hs
    go_enter Try.func44, Try.ntmps44
    go_wp2_with fail
    refine (HI.out _ ((H.out.ext (ext_alloc (ext_alloc (ext_alloc (ext_refl _) _) _) _) (Nat.le_refl _)).more (by simp; omega))).mono ?_
    rintro e w1 ⟨rfl, hb1⟩
    obtain ⟨hc1, hf1⟩ := bcell hb1
    have z0 : w.heap.size + 1 + 1 < w1.heap.size := by (have := hb1.size; simp at this; omega)
    have z1 : w.heap.size + 1 < w1.heap.size := by omega
    have z2 : w.heap.size < w1.heap.size := by omega
    have b1 := Lib.hid (ext_trans (ext_alloc (ext_alloc (ext_alloc (ext_refl w) _) _) _) hb1)
    clear hb1
    go_wp2_with fail
    refine (HT.out _ ((H.out.ext b1.out (Nat.le_refl _)).more (by omega))).mono ?_
    rintro e w2 ⟨rfl, hb2⟩
    obtain ⟨hc2, hf2⟩ := bcell hb2
    have y0 : w.heap.size + 1 + 1 < w2.heap.size := by (have := hb2.size; omega)
    have b2 := Lib.hid (ext_trans b1.out hb2)
    clear hb2
    go_wp2
    refine bodyPost_ret (v := .tuple #[schV 0 none 0 0 0 0, .bool false]) (by simp [results, Try.results44, go_sem, *]) rfl ?_
    refine ⟨rfl, ?_⟩
    repeat (first | (with_reducible exact b2.out) | (with_reducible refine ext_set ?_ (by simp <;> omega) _))
  · have HM := Lib.hid (fun (w : World) h => l25Make_any day pa le k id v A n c l w hnc hA h hs hk)
    rw [hk] at HT
    obtain ⟨O, hO⟩ : ∃ O, stepS day pa le l k id v = O := ⟨_, rfl⟩
    rw [hO] at HM ⊢
    clear hs hO hk
    go_enter Try.func44, Try.ntmps44
    go_wp2_with fail
    refine (HI.out _ ((H.out.ext (ext_alloc (ext_alloc (ext_alloc (ext_refl _) _) _) _) (Nat.le_refl _)).more (by simp; omega))).mono ?_
    rintro e w1 ⟨rfl, hb1⟩
    obtain ⟨hc1, hf1⟩ := bcell hb1
    have z0 : w.heap.size + 1 + 1 < w1.heap.size := by (have := hb1.size; simp at this; omega)
    have z1 : w.heap.size + 1 < w1.heap.size := by omega
    have z2 : w.heap.size < w1.heap.size := by omega
    have b1 := Lib.hid (ext_trans (ext_alloc (ext_alloc (ext_alloc (ext_refl w) _) _) _) hb1)
    clear hb1
    go_wp2_with fail
    refine (HT.out _ ((H.out.ext b1.out (Nat.le_refl _)).more (by omega))).mono ?_
    rintro e w2 ⟨rfl, hb2⟩
    obtain ⟨hc2, hf2⟩ := bcell hb2
    have y0 : w.heap.size + 1 + 1 < w2.heap.size := by (have := hb2.size; omega)
    have y1 : w.heap.size + 1 < w2.heap.size := by omega
    have y2 : w.heap.size < w2.heap.size := by omega
    have b2 := Lib.hid (ext_trans b1.out hb2)
    clear hb2
    go_wp2_with fail
    refine (HM.out _ ((H.out.ext b2.out (Nat.le_refl _)).more (by omega))).mono ?_
    rintro e w3 ⟨A3, c3, D, P, Q, L, rfl, ho3, hx3, hb3⟩
    obtain ⟨hc3, hf3⟩ := bcell hb3
    have x0 : w.heap.size + 1 + 1 < w3.heap.size := by (have := hb3.size; omega)
    have b3 := Lib.hid (ext_trans b2.out hb3)
    have O3 := Lib.hid ho3
    have HX3 := Lib.hid hx3
    clear hb3 ho3 hx3
    rcases O with _ | ⟨D', L', P', Q'⟩
    · have hsome : (none : Option Sch4).isSome = false := rfl
      go_wp2
      refine bodyPost_ret (v := .tuple #[schV 0 none 0 0 0 0, .bool false]) (by simp [results, Try.results44, go_sem, *]) rfl ?_
      refine ⟨rfl, ?_⟩
      repeat (first | (with_reducible exact b3.out) | (with_reducible refine ext_set ?_ (by simp <;> omega) _) | (with_reducible refine ext_alloc ?_ _))
    · have he := HX3.out _ rfl
      injection he with h1 he
      injection he with h2 he
      injection he with h3 h4
      subst h1 h2 h3 h4
      clear HX3
      go_wp2
      refine bodyPost_ret (v := .tuple #[schV D' A3 L'.length c3 P' Q', .bool true]) (by simp [results, Try.results44, go_sem, *]) rfl ?_
      refine ⟨A3, c3, rfl, own_base (base := w2.heap.size) ?_ (by omega), ?_⟩
      · repeat (first | (with_reducible exact O3.out) | (with_reducible refine own_set ?_ (by show w.heap.size + 1 + 1 < w2.heap.size; omega) _) | (with_reducible refine World.ownsRow.alloc ?_ _))
      · repeat (first | (with_reducible exact b3.out) | (with_reducible refine ext_set ?_ (by simp <;> omega) _) | (with_reducible refine ext_alloc ?_ _))
end Go.Proofs.Ytclihlihaigddaa
namespace Go.Proofs.Ytclihlihaigddaa
open Go.RowKit
set_option linter.unusedVariables false
set_option linter.unusedSimpArgs false
def oD (o : Option Sch4) : Int := match o with | none => 0 | some (d, _, _, _) => d
def oL (o : Option Sch4) : List R5 := match o with | none => [] | some (_, l, _, _) => l
def oP (o : Option Sch4) : Int := match o with | none => 0 | some (_, _, p, _) => p
def oQ (o : Option Sch4) : Int := match o with | none => 0 | some (_, _, _, q) => q
theorem own_cap2 {w : World} {base e size n c : Nat} {A : Option Addr} {xs : List Value} (h : w.ownsRow base e size (.slice A n c) n xs) : n ≤ c := by
  rcases h.2 with ⟨h', _⟩ | ⟨g', cap', cur, h', _, hg, hnc, _, _, _⟩
  · injection h' with _ h1 h2; omega
  · injection h' with _ h1 h2; omega
/-- a school of the call's own and a bool come back, whatever the answer -/
def RetUni (D P Q : Int) (N : Nat) (L : List R5) (ok : Bool) (w : World) (e : Ending) (w' : World) : Prop :=
  ∃ A c, e = .returned (.tuple #[schV D A N c P Q, .bool ok]) ∧ w'.ownsRow w.heap.size 109 5 (.slice A N c) N (rowsV L) ∧ Below w.heap.size w w'
theorem retUni (o : Option Sch4) (w : World) (e : Ending) (w' : World) (h : RetSch o w e w') : RetUni (oD o) (oP o) (oQ o) (oL o).length (oL o) o.isSome w e w' := by
  rcases o with _ | ⟨d, l, p, q⟩
  · exact ⟨none, 0, h.1, World.ownsRow_nil _ _ _ _, h.2⟩
  · exact h
theorem oL_len (day pa le : Int) (l : List R5) (k id v : Int) : (oL (stpB day pa le l k id v)).length ≤ 8 := by
  unfold stpB
  split
  · unfold stepS
    rcases h : tryS day pa le l k id v with _ | q
    · simp [oL]
    · rw [Option.filter_some]
      split
      · rename_i hs; exact schB_len hs
      · simp [oL]
  · simp [oL]
theorem own_cap3 {w : World} {base e size n c : Nat} {A : Option Addr} {xs : List Value} (h : w.ownsRow base e size (.slice A n c) n xs) : n ≤ c := own_cap2 h
end Go.Proofs.Ytclihlihaigddaa
namespace Go.Proofs.Ytclihlihaigddaa
open Go.RowKit
set_option linter.unusedVariables false
set_option linter.unusedSimpArgs false
/-- the reply comes back: the school, the text, and whether there is one -/
def RetRep (A : Option Addr) (n c : Nat) (l : List R5) (o : Option (Sch4 × ByteArray)) (w : World) (e : Ending) (w' : World) : Prop :=
  ∃ (A' : Option Addr) (N c' : Nat) (D P Q : Int) (L : List R5) (t : ByteArray), e = .returned (.tuple #[schV D A' N c' P Q, .string t, .bool o.isSome]) ∧ (∀ y, o = some y → y = ((D, L, P, Q), t) ∧ N = L.length ∧ (w'.ownsRow w.heap.size 109 5 (.slice A' N c') N (rowsV L) ∨ (A' = A ∧ c' = c ∧ N = n ∧ L = l))) ∧ Below w.heap.size w w'
theorem lit_no {s : ByteArray} {a : Array UInt8} {L : List UInt8} (h : s ≠ ⟨a⟩) (ha : a.toList = L) : (s.toList == L) = false := by
  have := ba_no h
  rw [← ha]
  rw [ByteArray.toList_eq] at this ⊢
  rw [ByteArray.toList_eq] at this
  exact this
theorem blk_id {w : World} {g : Nat} {t : TypeId} {cs : Array Value} (h : Blk w g t cs) : Blk w g t cs := h
theorem le_id {a b : Nat} (h : a ≤ b) : a ≤ b := h
theorem small2 {p q : Int} (hp : 0 ≤ p ∧ p ≤ 9999999) (hq : 0 ≤ q ∧ q ≤ 9999999) : smallI [p, q] := by
  intro z hz
  rcases List.mem_cons.1 hz with rfl | hz
  · omega
  · rcases List.mem_cons.1 hz with rfl | hz
    · omega
    · cases hz
theorem reads_two {w : World} {g : Nat} {p q : Int} (h : Blk w g 3 #[.int .i64 p, .int .i64 q]) : Reads w w.heap.size 1 (some ⟨g, 0, none⟩) 2 (intsV [p, q]) :=
  ⟨by simp [intsV], fun _ => ⟨g, 0, rfl, h.lt, fun j u hj => by
    rw [Nat.zero_add, h.cell]
    rcases j with _ | _ | j
    · simpa [intsV] using hj
    · simpa [intsV] using hj
    · simp [intsV] at hj⟩⟩
theorem oBounds (O : Option Sch4) (h : ∀ s, O = some s → schB s.1 s.2.1 s.2.2.1 s.2.2.2 = true) : (0 ≤ oD O ∧ oD O ≤ 4000) ∧ (0 ≤ oP O ∧ oP O ≤ 9999) ∧ (0 ≤ oQ O ∧ oQ O ≤ 9999) ∧ (oL O).length ≤ 8 := by
  rcases O with _ | ⟨d, l, p, q⟩
  · simp [oD, oP, oQ, oL]
  · have hs := h _ rfl
    have h1 := schB_day hs
    have h2 := schB_pa hs
    exact ⟨h1, h2.1, h2.2, schB_len hs⟩
set_option maxHeartbeats 1000000 in
theorem stepKind_any (s : ByteArray) (w : World) : Calls Try.prog 143 #[.string s] w fun e w' => e = .returned (.int .i64 (kindB s)) ∧ w = w' := by
  rcases kind_cases s with ⟨h, hs⟩ | ⟨h, hs⟩ | ⟨h, hs⟩ | ⟨h, hs⟩ | ⟨h, h1, h2, h3, h4⟩
  all_goals rw [h]
  · subst hs
    clear h
    go_enter Try.func143, Try.ntmps143
    go_wp2
    go_ret
    exact ⟨rfl, rfl⟩
  · subst hs
    clear h
    go_enter Try.func143, Try.ntmps143
    go_wp2
    go_ret
    exact ⟨rfl, rfl⟩
  · subst hs
    clear h
    go_enter Try.func143, Try.ntmps143
    go_wp2
    go_ret
    exact ⟨rfl, rfl⟩
  · subst hs
    clear h
    go_enter Try.func143, Try.ntmps143
    go_wp2
    go_ret
    exact ⟨rfl, rfl⟩
  · have b1 : (s.toList == [101, 110, 114, 111, 108]) = false := lit_no h1 rfl
    have b2 : (s.toList == [112, 114, 97, 99, 116, 105, 115, 101]) = false := lit_no h2 rfl
    have b3 : (s.toList == [101, 120, 97, 109]) = false := lit_no h3 rfl
    have b4 : (s.toList == [112, 97, 121]) = false := lit_no h4 rfl
    clear h h1 h2 h3 h4
    go_enter Try.func143, Try.ntmps143
    go_wp2
    go_ret
    exact ⟨rfl, rfl⟩
end Go.Proofs.Ytclihlihaigddaa
namespace Go.Proofs.Ytclihlihaigddaa
open Go.RowKit
set_option linter.unusedVariables false
set_option linter.unusedSimpArgs false
set_option maxRecDepth 100000 in
set_option maxHeartbeats 4000000 in
theorem reply_bad (day pa le : Int) (A : Option Addr) (n c : Nat) (l : List R5) (line : ByteArray) (w : World) (hn : n ≤ 8) (hA : SlOk A n c) (h : Reads w w.heap.size 5 A n (rowsV l)) (hs : schB day l pa le = true) (hline : line.size ≤ 16000) (hday : 0 ≤ day ∧ day ≤ 4000)
    (W : List (List UInt8)) (x0 : List UInt8) (word : ByteArray) (hW : splitL 32 (bl line) = W) (hx0 : W[0]? = some x0) (hwd : str x0 = word) (hvs : numsO (W.drop 1) = none) :
    Calls Try.prog 96 #[schV day A n c pa le, .string line] w (RetRep A n c l (none) w) := by
  have HSP := Lib.hid (show ∀ w : World, Calls Try.prog 99 #[.string line, .int .u8 32] w (RetSlice w 9 1 W.length (strsV W)) from fun w => by rw [← hW]; exact split_any line 32 w (by omega))
  obtain ⟨ib, xb, hib, hpb, hvp⟩ := numsO_bad _ hvs
  have hibl := (List.getElem?_eq_some_iff.1 hib).1
  have hWl : 1 ≤ W.length := by have := (List.getElem?_eq_some_iff.1 hx0).1; omega
  have hW8 : W.length ≤ 16001 := by
    have h1 := splitL_len 32 (bl line)
    have h2 := List.count_le_length (a := (32 : UInt8)) (l := bl line)
    rw [bl_size] at h2
    rw [hW] at h1
    omega
  have hmem : ∀ x ∈ W, (str x).size ≤ 16000 := fun x hx => by
    have h1 := splitL_mem 32 (bl line) x (by rw [hW]; exact hx)
    rw [bl_size] at h1
    have h2 : (str x).size = x.length := by rw [← bl_size, bl_str]
    omega
  have hdl : (W.drop 1).length = W.length - 1 := by simp
  obtain ⟨m, hm⟩ : ∃ m, W.length = m + 1 := ⟨W.length - 1, by omega⟩
  have hibm : ib < m := by omega
  have HV := Lib.hid hvp
  have HM := Lib.hid hm
  have HMEM := Lib.hid hmem
  have HX0 := Lib.hid hx0
  have HWD := Lib.hid hwd
  have H := Lib.hid h
  have HS := Lib.hid hs
  have hm16 : m ≤ 16000 := by omega
  rw [hm] at HSP
  obtain ⟨i0, hi, hz0, hz1, hz2⟩ := info_parts info_int
  have HIB := Lib.hid hib
  have HPB := Lib.hid hpb
  clear hib hpb hibl h hs hW hx0 hwd hvs hvp hWl hW8 hmem hdl hm
  go_enter Try.func96, Try.ntmps96
  go_wp2_with fail
  refine (HSP.out _).mono ?_
  rintro e w1 ⟨Aw, cw, rfl, how, hb1⟩
  obtain ⟨g, cap, hv, hgb, hglt⟩ := how.form (by omega)
  injection hv with hv _ hcap
  subst hv hcap
  have BX := Lib.hid (((Blk.new w #[.int .i64 day, .slice A n c, .int .i64 pa, .int .i64 le] 24).ext (ext_alloc (ext_refl _) (.cells #[.int .i64 0, .slice none 0 0, .int .i64 0, .int .i64 0] 24))).ext hb1)
  have BR : Hid (Blk w1 (w.heap.size + 1) 24 #[.int .i64 0, .slice none 0 0, .int .i64 0, .int .i64 0]) := Lib.hid (by
    have := (Blk.new (w.alloc (.cells #[.int .i64 day, .slice A n c, .int .i64 pa, .int .i64 le] 24)) #[.int .i64 0, .slice none 0 0, .int .i64 0, .int .i64 0] 24).ext hb1
    simpa using this)
  have hw1 := Lib.hid (ext_trans (ext_alloc (ext_alloc (ext_refl w) _) _) hb1)
  have s1 : w.heap.size + 1 < w1.heap.size := by have := hb1.size; simp at this; omega
  have hgs : w.heap.size + 1 < g := by simp at hgb; omega
  have hcw : m + 1 ≤ cw := own_cap3 how
  have HOW := Lib.hid (own_base (base' := 0) how (Nat.zero_le _))
  have HC0 : Hid (∀ (k : Nat) (x : List UInt8), W[k]? = some x → w1.cell? ⟨g, k, none⟩ = some (.string (str x))) := Lib.hid (fun k x hx => by
    rw [how.cellAt k (by have := (List.getElem?_eq_some_iff.1 hx).1; have := HM.out; omega)]
    simp [strsV, hx])
  clear hb1 how hgb
  go_upto_region 3 with fail
  go_cut [30, 31, 32] (fun s30 s31 s32 wx => ∃ (A2 : Option Addr) (c2 : Nat), s30 = .slice A2 m c2 ∧ s31 = .int .i64 m ∧ s32 = .int .i64 0 ∧ wx = w1 ∧ (0 < m → A2 = some ⟨g, 1, none⟩))
  case first =>
    by_cases hc1 : cw = 1
    · subst hc1
      obtain rfl : m = 0 := by omega
      go_wp2_with fail
      go_meet
      exact ⟨_, _, rfl, rfl, rfl, rfl, fun hm0 => absurd hm0 (by omega)⟩
    · go_wp2_with fail
      go_meet
      exact ⟨_, _, rfl, rfl, rfl, rfl, fun _ => rfl⟩
  case rest =>
  obtain ⟨A2, c2, rfl, rfl, rfl, rfl, hA2⟩ := hcut
  have HA2 := Lib.hid hA2
  clear hA2 hcw
  go_wp2_with fail
  go_loopw [8, 32] (fun v i wr => ∃ (k : Nat) (us : List Int), k ≤ ib ∧ i = .int .i64 k ∧ Hid (wr.ownsRow wc.heap.size 3 1 v k (intsV us)) ∧ Hid (Below wc.heap.size wc wr)) (fun _ i _ => m - (intOf i).toNat)
  case atStart => exact ⟨0, [], Nat.zero_le _, rfl, Lib.hid (World.ownsRow_nil _ _ _ _), Lib.hid (ext_refl _)⟩
  case round =>
    obtain ⟨k, us, hk, rfl, hown, HB⟩ := hrel
    have hkm : k < m := by omega
    by_cases hlt : k < ib
    · obtain ⟨x, hx⟩ := list_split (l := W) (k := 1 + k) (by rw [HM.out]; omega)
      obtain ⟨v, hp⟩ := HV.out k x hlt (by rw [List.getElem?_drop]; exact hx)
      have hxs := HMEM.out x (List.mem_of_getElem? hx)
      have HPI := Lib.hid (fun (w : World) => implParseInt_any (str x) w (by omega))
      rw [hp] at HPI
      have c0 := ext_cell HB.out (HC0.out (1 + k) x hx)
      have hgw : g < wr.heap.size := Nat.lt_of_lt_of_le hglt HB.out.size
      have hnew : Hid (intsV (us ++ [v]) = intsV us ++ [.int .i64 v]) := Lib.hid (by simp [intsV])
      have hA3 := HA2.out (by omega)
      subst hA3
      have m1 : k + 1 ≤ maxLen := by unfold maxLen; omega
      have m2 : (k + 1) * 8 ≤ 140737488355328 := by omega
      have hlt' : (k : Int) < (m : Int) := by omega
      clear hx hp
      go_wp2_with fail
      refine (HPI.out _).mono ?_
      rintro e w5 ⟨rfl, hb⟩
      have hown5 := Lib.hid (own_ext hown.out hb)
      have HB5 := Lib.hid (ext_trans HB.out hb)
      have hSome : (some v).isSome = true := rfl
      clear hb c0
      go_wp2_with (at_builtin; refine wpList_append_own _ rfl (.tmp 44) (.tmp 46) 97 rfl wc.heap.size 3 i0 _ 1 8 Try.underlying97 hi hz0 hz1 hz2 rfl (by decide) _ _ _ rfl (hown5.out.alloc _) _ 1 1 [.int .i64 v] rfl rfl (cell_one_at _ _ _ (by simp)) (by simp [Value.oneCell']) m1 m2 (by have := HB5.out.size; simp; omega) ?_; intro v' w2 hown2 hgrow _)
      go_roundw
      case rel =>
        refine ⟨k + 1, us ++ [v], by omega, by go_num, ?_, Lib.hid (below_grown hown5.out (ext_alloc HB5.out _) hgrow)⟩
        refine Lib.hid ?_
        rw [hnew.out]
        exact hown2
      case measure => simp [intOf]; omega
    · obtain rfl : k = ib := by omega
      have hx := HIB.out
      rw [List.getElem?_drop] at hx
      have hxs := HMEM.out xb (List.mem_of_getElem? hx)
      have HPI := Lib.hid (fun (w : World) => implParseInt_any (str xb) w (by omega))
      rw [HPB.out] at HPI
      have c0 := ext_cell HB.out (HC0.out (1 + k) xb hx)
      have hgw : g < wr.heap.size := Nat.lt_of_lt_of_le hglt HB.out.size
      have hA3 := HA2.out (by omega)
      subst hA3
      have hlt' : (k : Int) < (m : Int) := by omega
      have BXr := Lib.hid (BX.out.ext HB.out)
      have BRr := Lib.hid (BR.out.ext HB.out)
      have hwr := Lib.hid (ext_trans hw1.out HB.out)
      clear hx
      go_wp2_with fail
      refine (HPI.out _).mono ?_
      rintro e w5 ⟨rfl, hb5⟩
      have hNone : (none : Option Int).isSome = false := rfl
      have BX5 := Lib.hid (BXr.out.ext hb5)
      have BR5 := Lib.hid (BRr.out.ext hb5)
      have hw5 := Lib.hid (ext_trans hwr.out hb5)
      have s5 := hb5.size
      have hg5 : g < w5.heap.size := by omega
      have sX5 := BX5.out.lt
      have sR5 := BR5.out.lt
      have x50 : w5.cell? ⟨w.heap.size, 0, none⟩ = some (.int .i64 day) := BX5.out.cell 0
      have x51 : w5.cell? ⟨w.heap.size, 1, none⟩ = some (.slice A n c) := BX5.out.cell 1
      have x52 : w5.cell? ⟨w.heap.size, 2, none⟩ = some (.int .i64 pa) := BX5.out.cell 2
      have x53 : w5.cell? ⟨w.heap.size, 3, none⟩ = some (.int .i64 le) := BX5.out.cell 3
      have y50 : w5.cell? ⟨w.heap.size + 1, 0, none⟩ = some (.int .i64 0) := BR5.out.cell 0
      have y51 : w5.cell? ⟨w.heap.size + 1, 1, none⟩ = some (.slice none 0 0) := BR5.out.cell 1
      have y52 : w5.cell? ⟨w.heap.size + 1, 2, none⟩ = some (.int .i64 0) := BR5.out.cell 2
      have y53 : w5.cell? ⟨w.heap.size + 1, 3, none⟩ = some (.int .i64 0) := BR5.out.cell 3
      have fy50 := BR5.out.frozen 0
      have fy51 := BR5.out.frozen 1
      have fy52 := BR5.out.frozen 2
      have fy53 := BR5.out.frozen 3
      clear c0 hb5
      go_wp2
      refine bodyPost_ret (v := .tuple #[schV day A n c pa le, .string (⟨#[]⟩), .bool false]) (by simp [results, Try.results96, go_sem, *]) rfl ?_
      refine ⟨A, n, c, day, pa, le, l, ⟨#[]⟩, rfl, (fun y hy => nomatch hy), ?_⟩
      iterate 4 refine ext_set ?_ (by show w.heap.size ≤ w.heap.size + 1; omega) _
      exact hw5.out
end Go.Proofs.Ytclihlihaigddaa
