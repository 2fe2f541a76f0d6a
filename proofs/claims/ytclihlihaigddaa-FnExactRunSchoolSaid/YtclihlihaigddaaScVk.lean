
/- The reference makes a step, whole; StepSchool: program and reference. -/
import Derived.Test.YtclihlihaigddaaScVf
import Derived.Test.YtclihlihaigddaaScVg
import Derived.Test.YtclihlihaigddaaScVh
import Derived.Test.YtclihlihaigddaaScVi
import Derived.Test.YtclihlihaigddaaScVj
import Derived.Test.YtclihlihaigddaaScVb
namespace Go.Proofs.Ytclihlihaigddaa
open Go.RowKit
set_option linter.unusedVariables false
set_option linter.unusedSimpArgs false
set_option maxRecDepth 100000 in
set_option maxHeartbeats 4000000 in
theorem l25Make_far (day pa le id v : Int) (A : Option Addr) (n c : Nat) (l : List R5) (w : World) (hn : n ≤ 8) (hnc : n ≤ c) (hA : SlOk A n c) (h : Reads w w.heap.size 5 A n (rowsV l)) (hv : 4000 - day < v) (hday : 0 ≤ day ∧ day ≤ 4000) :
    Calls Try.prog 110 #[schV day A n c pa le, .agg #[.int .i64 1, .int .i64 id, .int .i64 v]] w (RetMake none w) := by
  have hgt : decide (4000 - day < v) = true := by simpa using hv
  have H := Lib.hid h
  have HL := Lib.hid (rows_len h)
  have HA := Lib.hid (fun w h => l25Own_any day pa le A n c l w (by omega) hA h)
  have HF := Lib.hid (fun (w : World) h => l25Find_any day pa le id A n c l w (by omega) h)
  obtain ⟨zf, hzf⟩ : ∃ zf, findI l id = zf := ⟨_, rfl⟩
  rw [hzf] at HF
  clear hzf
  clear h
  go_enter Try.func110, Try.ntmps110
  go_wp2_with fail
  refine (HA.out _ ((H.out.ext (ext_alloc (ext_alloc (ext_alloc (ext_refl _) _) _) _) (Nat.le_refl _)).more (by simp; omega))).mono ?_
  rintro e w1 ⟨A1, c1, rfl, hown, hb1⟩
  have z0 : w.heap.size + 1 + 1 < w1.heap.size := by (have := hb1.size; simp at this; omega)
  have z1 : w.heap.size + 1 < w1.heap.size := by omega
  have z2 : w.heap.size < w1.heap.size := by omega
  have BX : Hid (Blk w1 w.heap.size 24 #[.int .i64 day, .slice A n c, .int .i64 pa, .int .i64 le]) := Lib.hid (((Blk.new w _ _).ext (ext_alloc (ext_alloc (ext_refl _) _) _)).ext hb1)
  have BY : Hid (Blk w1 (w.heap.size + 1) 74 #[.int .i64 1, .int .i64 id, .int .i64 v]) := Lib.hid (by
    have := ((Blk.new (w.alloc (.cells #[.int .i64 day, .slice A n c, .int .i64 pa, .int .i64 le] 24)) #[.int .i64 1, .int .i64 id, .int .i64 v] 74).ext (ext_alloc (ext_refl _) (.cells #[.int .i64 0, .slice none 0 0, .int .i64 0, .int .i64 0] 24))).ext hb1
    simpa using this)
  have BR : Hid (Blk w1 (w.heap.size + 1 + 1) 24 #[.int .i64 0, .slice none 0 0, .int .i64 0, .int .i64 0]) := Lib.hid (by
    have := (Blk.new ((w.alloc (.cells #[.int .i64 day, .slice A n c, .int .i64 pa, .int .i64 le] 24)).alloc (.cells #[.int .i64 1, .int .i64 id, .int .i64 v] 74)) #[.int .i64 0, .slice none 0 0, .int .i64 0, .int .i64 0] 24).ext hb1
    simpa using this)
  have hbw := Lib.hid (ext_trans (ext_alloc (ext_alloc (ext_alloc (ext_refl w) _) _) _) hb1)
  have HO : Hid (w1.ownsRow w.heap.size 109 5 (.slice A1 n c1) n (rowsV l)) := Lib.hid (own_base hown (by simp; omega))
  clear hb1 hown
  have x0 : w1.cell? ⟨w.heap.size, 0, none⟩ = some (.int .i64 day) := BX.out.cell 0
  have fx0 := BX.out.frozen 0
  have x1 : w1.cell? ⟨w.heap.size, 1, none⟩ = some (.slice A n c) := BX.out.cell 1
  have fx1 := BX.out.frozen 1
  have x2 : w1.cell? ⟨w.heap.size, 2, none⟩ = some (.int .i64 pa) := BX.out.cell 2
  have fx2 := BX.out.frozen 2
  have x3 : w1.cell? ⟨w.heap.size, 3, none⟩ = some (.int .i64 le) := BX.out.cell 3
  have fx3 := BX.out.frozen 3
  have y0 : w1.cell? ⟨w.heap.size + 1, 0, none⟩ = some (.int .i64 1) := BY.out.cell 0
  have fy0 := BY.out.frozen 0
  have y1 : w1.cell? ⟨w.heap.size + 1, 1, none⟩ = some (.int .i64 id) := BY.out.cell 1
  have fy1 := BY.out.frozen 1
  have y2 : w1.cell? ⟨w.heap.size + 1, 2, none⟩ = some (.int .i64 v) := BY.out.cell 2
  have fy2 := BY.out.frozen 2
  have r0 : w1.cell? ⟨w.heap.size + 1 + 1, 0, none⟩ = some (.int .i64 0) := BR.out.cell 0
  have fr0 := BR.out.frozen 0
  have r1 : w1.cell? ⟨w.heap.size + 1 + 1, 1, none⟩ = some (.slice none 0 0) := BR.out.cell 1
  have fr1 := BR.out.frozen 1
  have r2 : w1.cell? ⟨w.heap.size + 1 + 1, 2, none⟩ = some (.int .i64 0) := BR.out.cell 2
  have fr2 := BR.out.frozen 2
  have r3 : w1.cell? ⟨w.heap.size + 1 + 1, 3, none⟩ = some (.int .i64 0) := BR.out.cell 3
  have fr3 := BR.out.frozen 3
  go_wp2_with fail
  refine (HF.out _ (((H.out.ext hbw.out (Nat.le_refl _)).ext (ext_alloc (ext_refl _) _) (by omega)).more (by simp; omega))).mono ?_
  rintro e w5 ⟨rfl, hb5⟩
  have z5 : w1.heap.size < w5.heap.size := by (have := hb5.size; simp at this; omega)
  have z50 : w.heap.size + 1 + 1 < w5.heap.size := by omega
  have z51 : w.heap.size + 1 < w5.heap.size := by omega
  have z52 : w.heap.size < w5.heap.size := by omega
  have b5 := Lib.hid (ext_trans hbw.out (ext_trans (ext_alloc (ext_refl _) _) hb5))
  have O5 := Lib.hid (own_ext HO.out (ext_trans (ext_alloc (ext_refl _) _) hb5))
  have GX5 := Lib.hid (BX.out.ext (ext_trans (ext_alloc (ext_refl _) _) hb5))
  have GY5 := Lib.hid (BY.out.ext (ext_trans (ext_alloc (ext_refl _) _) hb5))
  have GR5 := Lib.hid (BR.out.ext (ext_trans (ext_alloc (ext_refl _) _) hb5))
  have GT5 : Hid (Blk w5 w1.heap.size 24 #[.int .i64 day, .slice A1 n c1, .int .i64 pa, .int .i64 le]) := Lib.hid ((Blk.new w1 _ _).ext hb5)
  clear hb5 x0 x1 x2 x3 fx0 fx1 fx2 fx3 y0 y1 y2 fy0 fy1 fy2 r0 r1 r2 r3 fr0 fr1 fr2 fr3
  have p0 : w5.cell? ⟨w.heap.size, 0, none⟩ = some (.int .i64 day) := GX5.out.cell 0
  have fp0 := GX5.out.frozen 0
  have p1 : w5.cell? ⟨w.heap.size, 1, none⟩ = some (.slice A n c) := GX5.out.cell 1
  have fp1 := GX5.out.frozen 1
  have p2 : w5.cell? ⟨w.heap.size, 2, none⟩ = some (.int .i64 pa) := GX5.out.cell 2
  have fp2 := GX5.out.frozen 2
  have p3 : w5.cell? ⟨w.heap.size, 3, none⟩ = some (.int .i64 le) := GX5.out.cell 3
  have fp3 := GX5.out.frozen 3
  have m0 : w5.cell? ⟨w.heap.size + 1, 0, none⟩ = some (.int .i64 1) := GY5.out.cell 0
  have fm0 := GY5.out.frozen 0
  have m1 : w5.cell? ⟨w.heap.size + 1, 1, none⟩ = some (.int .i64 id) := GY5.out.cell 1
  have fm1 := GY5.out.frozen 1
  have m2 : w5.cell? ⟨w.heap.size + 1, 2, none⟩ = some (.int .i64 v) := GY5.out.cell 2
  have fm2 := GY5.out.frozen 2
  have s0 : w5.cell? ⟨w.heap.size + 1 + 1, 0, none⟩ = some (.int .i64 0) := GR5.out.cell 0
  have fs0 := GR5.out.frozen 0
  have s1 : w5.cell? ⟨w.heap.size + 1 + 1, 1, none⟩ = some (.slice none 0 0) := GR5.out.cell 1
  have fs1 := GR5.out.frozen 1
  have s2 : w5.cell? ⟨w.heap.size + 1 + 1, 2, none⟩ = some (.int .i64 0) := GR5.out.cell 2
  have fs2 := GR5.out.frozen 2
  have s3 : w5.cell? ⟨w.heap.size + 1 + 1, 3, none⟩ = some (.int .i64 0) := GR5.out.cell 3
  have fs3 := GR5.out.frozen 3
  have t0 : w5.cell? ⟨w1.heap.size, 0, none⟩ = some (.int .i64 day) := GT5.out.cell 0
  have ft0 := GT5.out.frozen 0
  have t1 : w5.cell? ⟨w1.heap.size, 1, none⟩ = some (.slice A1 n c1) := GT5.out.cell 1
  have ft1 := GT5.out.frozen 1
  have t2 : w5.cell? ⟨w1.heap.size, 2, none⟩ = some (.int .i64 pa) := GT5.out.cell 2
  have ft2 := GT5.out.frozen 2
  have t3 : w5.cell? ⟨w1.heap.size, 3, none⟩ = some (.int .i64 le) := GT5.out.cell 3
  have ft3 := GT5.out.frozen 3
  go_wp2
  refine bodyPost_ret (v := .tuple #[schV day A1 n c1 pa le, .bool false]) (by simp [results, Try.results110, go_sem, *]) rfl ?_
  have hne := own_nb O5.out GR5.out (by decide)
  refine ⟨A1, c1, day, pa, le, l, ?_, ?_, (fun x hx => by cases hx), ?_⟩
  · rw [HL.out]; rfl
  · rw [HL.out]
    iterate 4 refine own_set_nb ?_ hne _
    exact O5.out
  · iterate 4 refine ext_set ?_ (by show w.heap.size ≤ w.heap.size + 1 + 1; omega) _
    exact b5.out

theorem teach3 {day pa le : Int} {l : List R5} {i : Nat} {r : R5} {v : Int} (hv : inB v 1 20 = true) : ((teach day pa le l i r 3 v).map fun q => (day, q.1, q.2.1, q.2.2)).filter (fun q => schB q.1 q.2.1 q.2.2.1 q.2.2.2) =
    if chgB r 3 day = true then (if schB day (l.set i (chgR r 3 v day)) pa le = true then some (day, l.set i (chgR r 3 v day), pa, le) else none) else none := by
  by_cases hd : r.d < day
  · simp [teach, hd, chgB, show ¬ day ≤ r.d by omega]
  · simp [teach, hd, hv, chgB, chgR, show day ≤ r.d by omega, Option.filter_some]
theorem teach5 {day pa le : Int} {l : List R5} {i : Nat} {r : R5} {v : Int} (hv : inB v 1 365 = true) : ((teach day pa le l i r 5 v).map fun q => (day, q.1, q.2.1, q.2.2)).filter (fun q => schB q.1 q.2.1 q.2.2.1 q.2.2.2) =
    if chgB r 5 day = true then (if schB day (l.set i (chgR r 5 v day)) pa le = true then some (day, l.set i (chgR r 5 v day), pa, le) else none) else none := by
  simp [teach, hv, chgB, chgR, Option.filter_some]
theorem teach4 {day pa le : Int} {l : List R5} {i : Nat} {r : R5} {v : Int} (hv : inB v 0 100 = true) (hs : stuB r = true) : ((teach day pa le l i r 4 v).map fun q => (day, q.1, q.2.1, q.2.2)).filter (fun q => schB q.1 q.2.1 q.2.2.1 q.2.2.2) =
    if chgB r 4 day = true then (if schB day (l.set i (chgR r 4 v day)) (if passB r v = true then pa + 1 else pa) le = true then some (day, l.set i (chgR r 4 v day), (if passB r v = true then pa + 1 else pa), le) else none) else none := by
  have hb := (stu_bounds hs).2.1
  by_cases hd : r.d < day
  · simp [teach, hd, chgB, show ¬ day ≤ r.d by omega]
  · by_cases h10 : r.b = 10
    · simp [teach, h10, chgB]
    · have hlt : r.b < 10 := by omega
      by_cases hp : 70 ≤ v ∧ 10 + 5 * r.b ≤ r.c
      · simp [teach, hd, h10, hv, hp, chgB, chgR, passB, hlt, show day ≤ r.d by omega, Option.filter_some]
      · have hpb : passB r v = false := by
          rw [Bool.eq_false_iff]; intro h; simp [passB] at h; exact hp h
        simp [teach, hd, h10, hv, hp, chgB, chgR, hpb, hlt, show day ≤ r.d by omega, Option.filter_some]
theorem teach6 {day pa le : Int} {l : List R5} {i : Nat} {r : R5} : ((teach day pa le l i r 6 0).map fun q => (day, q.1, q.2.1, q.2.2)).filter (fun q => schB q.1 q.2.1 q.2.2.1 q.2.2.2) =
    if schB day (l.eraseIdx i) pa (le + 1) = true then some (day, l.eraseIdx i, pa, le + 1) else none := by
  simp [teach, Option.filter_some]
theorem l25Make_any (day pa le k id v : Int) (A : Option Addr) (n c : Nat) (l : List R5) (w : World) (hnc : n ≤ c) (hA : SlOk A n c) (h : Reads w w.heap.size 5 A n (rowsV l)) (hs : schB day l pa le = true) (hok : stepOk l k id v = true) :
    Calls Try.prog 110 #[schV day A n c pa le, .agg #[.int .i64 k, .int .i64 id, .int .i64 v]] w (RetMake (stepS day pa le l k id v) w) := by
  have hn : n ≤ 8 := by have := schB_len hs; have := rows_len h; omega
  have hday := schB_day hs
  have hpl := schB_pa hs
  by_cases h1 : k = 1
  · subst h1
    have hv : id = 0 ∧ 1 ≤ v := by simpa [stepOk] using hok
    rw [stepS_1 hok]
    by_cases hf : v ≤ 4000 - day
    · exact l25Make_wait day pa le id v A n c l w hn hnc hA h hv.2 hday hf
    · rw [if_neg (by intro hh; have := schB_day hh; omega)]
      exact l25Make_far day pa le id v A n c l w hn hnc hA h (by omega) hday
  by_cases h2 : k = 2
  · subst h2
    rw [stepS_2 hok]
    exact l25Make_enrol day pa le id v A n c l w hn hnc hA h
  have h36 : k = 3 ∨ k = 4 ∨ k = 5 ∨ k = 6 := by
    by_cases h3 : k = 3
    · exact .inl h3
    by_cases h4 : k = 4
    · exact .inr (.inl h4)
    by_cases h5 : k = 5
    · exact .inr (.inr (.inl h5))
    · simp [stepOk, h1, h2, h3, h4, h5] at hok
      exact .inr (.inr (.inr hok.1.1))
  obtain ⟨i, r, hf, hr, _⟩ := stepOk_find hok h36
  have hst := schB_mem hs (List.mem_of_getElem? hr)
  rw [stepS_t h36 hf hr]
  rcases h36 with rfl | rfl | rfl | rfl
  · have hv : inB v 1 20 = true := by simp [stepOk] at hok; exact hok.2
    rw [teach3 hv]
    exact l25Make_3 day pa le id v A n c l w hn hnc hA h i r hf hr hst hday hpl.1 (inB_iff.1 hv)
  · have hv : inB v 0 100 = true := by simp [stepOk] at hok; exact hok.2
    rw [teach4 hv hst]
    rcases hp : passB r v with _ | _
    · simpa using l25Make_4f day pa le id v A n c l w hn hnc hA h i r hf hr hst hday hpl.1 (inB_iff.1 hv) hp
    · simpa using l25Make_4p day pa le id v A n c l w hn hnc hA h i r hf hr hst hday hpl.1 (inB_iff.1 hv) hp
  · have hv : inB v 1 365 = true := by simp [stepOk] at hok; exact hok.2
    rw [teach5 hv]
    exact l25Make_5 day pa le id v A n c l w hn hnc hA h i r hf hr hst hday hpl.1 (inB_iff.1 hv)
  · have hv : v = 0 := by simp [stepOk] at hok; exact hok.2
    subst hv
    rw [teach6]
    exact l25Make_6 day pa le id 0 A n c l w hn hnc hA h i r hf hr hpl.2
end Go.Proofs.Ytclihlihaigddaa
