/- enrolled: a new student put in place, walked. -/
import Derived.Test.YtkcbgiegoadkbaaGreatVM2
import Derived.Test.YtkcbgiegoadkbaaGreatVM1
import Derived.Maps.AppendAt
namespace Go.Proofs.YtkcbgiegoadkbaaGreat
open Go.RowKit
set_option linter.unusedVariables false
set_option linter.unusedSimpArgs false
def zero5 : List Value := [.int .i64 0, .int .i64 0, .int .i64 0, .int .i64 0, .int .i64 0]
theorem zero5_one : ∀ u ∈ zero5, u.oneCell' = true := by
 intro u hu
 simp only [zero5, List.mem_cons, List.not_mem_nil, or_false] at hu
 rcases hu with rfl | rfl | rfl | rfl | rfl <;> rfl
theorem gr_alloc {w w2 : World} {o : Obj} {r : Option Nat} (h : (w.alloc o).grownBy w2 r) : w.grownBy w2 r :=
 have hb := ext_alloc (ext_refl w) o
 ⟨h.os.trans hb.os, h.tape.trans hb.tape, h.output.trans hb.output, Nat.le_trans hb.size h.size, fun i hi hne => (h.block i (Nat.lt_of_lt_of_le hi hb.size) hne).trans (hb.block i hi)⟩
theorem gr_chain {w w1 w2 : World} {r : Option Nat} (hb : Below w.heap.size w w1) (h : w1.grownBy w2 r) : w.grownBy w2 r :=
 ⟨h.os.trans hb.os, h.tape.trans hb.tape, h.output.trans hb.output, Nat.le_trans hb.size h.size, fun i hi hne => (h.block i (Nat.lt_of_lt_of_le hi hb.size) hne).trans (hb.block i hi)⟩
theorem only_set_new {a w : World} {r : Option Nat} (h : a.grownBy w r) {p : Addr} (hp : a.heap.size ≤ p.block) (u : Value) : a.grownBy (w.setCell p u) r :=
 ⟨h.os, h.tape, h.output, by simpa [World.setCell] using h.size, fun i hi hne => (Below.heap_setCell w p u i (by omega)).trans (h.block i hi hne)⟩
theorem Blk.set_far {w : World} {g : Nat} {t : TypeId} {cs : Array Value} (h : Blk w g t cs) {p : Addr} (hp : p.block ≠ g) (u : Value) : Blk (w.setCell p u) g t cs := (Below.heap_setCell w p u g (fun e => hp e.symm)).trans h
theorem own_ne_blk {w : World} {base e size n c g b : Nat} {xs : List Value} {t : TypeId} {cs : Array Value} (h : w.ownsRow base e size (.slice (some ⟨g, 0, none⟩) n c) n xs) (hb : Blk w b t cs) (ht : t ≠ e) : g ≠ b := by
 rcases h.2 with ⟨h', _⟩ | ⟨g', cap', cur, h', _, hg, _, _, _, _⟩
 · simp at h'
 · simp only [Value.slice.injEq, Option.some.injEq, Addr.mk.injEq, and_true, true_and] at h'
   obtain ⟨rfl, rfl⟩ := h'
   rintro rfl
   unfold Blk at hb
   rw [hb] at hg
   injection hg with hg
   injection hg with _ hg
   exact ht hg
theorem own_cap {w : World} {base e size n c g : Nat} {xs : List Value} (h : w.ownsRow base e size (.slice (some ⟨g, 0, none⟩) n c) n xs) : n ≤ c := by
 rcases h.2 with ⟨h', _⟩ | ⟨g', cap', cur, h', _, hg, hnc, _, _, _⟩
 · simp at h'
 · simp only [Value.slice.injEq, Option.some.injEq, Addr.mk.injEq, and_true, true_and] at h'
   obtain ⟨rfl, rfl⟩ := h'
   exact hnc
theorem at_or {g2 H B : Nat} {r : Option Nat} (h : some g2 = r ∨ some g2 = some H) (hB : B ≤ H) : r = some g2 ∨ B ≤ g2 := by
 rcases h with h | h
 · exact .inl h.symm
 · right; injection h with h; omega
theorem only_set_or {a w : World} {r : Option Nat} (h : a.grownBy w r) {p : Addr} (hp : r = some p.block ∨ a.heap.size ≤ p.block) (u : Value) : a.grownBy (w.setCell p u) r := by
 rcases hp with hp | hp
 · subst hp; exact only_setCell h (.inl rfl) u
 · exact only_set_new h hp u
theorem gr_join {w w5 w6 w7 : World} {r : Option Nat} {g2 : Nat} (h : w.grownBy w5 r) (hz : w.heap.size ≤ w5.heap.size) (hb : Below w5.heap.size w5 w6) (hg : w6.grownBy w7 (some g2)) (hr : r = some g2 ∨ w.heap.size ≤ g2) : w.grownBy w7 r :=
 ⟨hg.os.trans (hb.os.trans h.os), hg.tape.trans (hb.tape.trans h.tape), hg.output.trans (hb.output.trans h.output), Nat.le_trans h.size (Nat.le_trans hb.size hg.size), fun i hi hne => by
  have h5 : i < w5.heap.size := Nat.lt_of_lt_of_le hi h.size
  have hi2 : some i ≠ some g2 := by
   intro e
   injection e with e
   subst e
   rcases hr with hr | hr
   · exact hne hr.symm
   · omega
  exact (hg.block i (Nat.lt_of_lt_of_le h5 hb.size) hi2).trans ((hb.block i h5).trans (h.block i hi hne))⟩
theorem ne_some {a b : Nat} (h : a ≠ b) : some a ≠ some b := by simpa using h
theorem ins_at {l : List R5} {id v day : Int} {k : Nat} (h : lowTo l id k) (hk : k ≤ l.length) (he : ∀ r, l[k]? = some r → ¬ r.a < id) : insS l id v day = l.take k ++ ⟨id, v, 0, day, 0⟩ :: l.drop k := by
 rw [insS, insK_of l id k h hk he]
theorem copy_len {l : List R5} {n k : Nat} (hl : l.length = n) (hk : k ≤ n) : (rowsV (l.drop k)).length = Nat.min (n + 1 - k) (n - k) * 5 := by
 rw [rowsV_len, List.length_drop, hl, show Nat.min (n + 1 - k) (n - k) = n - k from by simp [Nat.min_def]; omega]
theorem copy_fit {l : List R5} {n k : Nat} (hl : l.length = n) (hk : k ≤ n) : (k + 1) * 5 + (rowsV (l.drop k)).length ≤ (n + 1) * 5 := by
 rw [rowsV_len, List.length_drop, hl]; omega
/-- what is copied is read there -/
theorem rows_copy_src {w : World} {base e n c g k : Nat} {l : List R5} {zs : List Value} (h : w.ownsRow base e 5 (.slice (some ⟨g, 0, none⟩) (n + 1) c) (n + 1) (rowsV l ++ zs)) (hl : l.length = n) (hk : k ≤ n) :
 ∀ j u, (rowsV (l.drop k))[j]? = some u → w.cell? ((⟨g, k * 5, none⟩ : Addr).add j) = some u := by
 intro j u hj
 have hlt := (List.getElem?_eq_some_iff.1 hj).1
 rw [rowsV_len, List.length_drop, hl] at hlt
 rw [add_flat, h.cellAt _ (by omega)]
 have e1 : rowsV l = rowsV (l.take k) ++ rowsV (l.drop k) := by rw [← rowsV_app, List.take_append_drop]
 have hlen : (rowsV (l.take k)).length = k * 5 := by rw [rowsV_len, List.length_take, hl, Nat.min_eq_left hk]
 rw [List.getElem?_append_left (by rw [rowsV_len, hl]; omega), e1, List.getElem?_append_right (by omega), hlen, show k * 5 + j - k * 5 = j from by omega, hj]
theorem ins_cells {l : List R5} {n k : Nat} {zs : List Value} (hl : l.length = n) (hk : k ≤ n) (hz : zs.length = 5) (r : R5) :
 (((((splice (rowsV l ++ zs) ((k + 1) * 5) (rowsV (l.drop k))).set (k * 5) (.int .i64 r.a)).set (k * 5 + 1) (.int .i64 r.b)).set (k * 5 + 2) (.int .i64 r.c)).set (k * 5 + 3) (.int .i64 r.d)).set (k * 5 + 4) (.int .i64 r.e) = rowsV (l.take k ++ r :: l.drop k) := by
 have e1 : rowsV l = rowsV (l.take k) ++ rowsV (l.drop k) := by rw [← rowsV_app, List.take_append_drop]
 have hlen : (rowsV (l.take k)).length = k * 5 := by rw [rowsV_len, List.length_take, hl, Nat.min_eq_left hk]
 have hd : (rowsV (l.drop k)).length = (n - k) * 5 := by rw [rowsV_len, List.length_drop, hl]
 obtain ⟨T, hT⟩ : ∃ T, T = (rowsV (l.drop k) ++ zs).take 5 := ⟨_, rfl⟩
 have hT5 : T.length = 5 := by rw [hT, List.length_take, List.length_append, hd]; omega
 have hs : splice (rowsV l ++ zs) ((k + 1) * 5) (rowsV (l.drop k)) = rowsV (l.take k) ++ (T ++ rowsV (l.drop k)) := by
  unfold splice
  have hdr : (rowsV (l.take k) ++ (rowsV (l.drop k) ++ zs)).drop ((k + 1) * 5 + (rowsV (l.drop k)).length) = [] := List.drop_of_length_le (by simp only [List.length_append, hlen, hd, hz]; omega)
  rw [e1, List.append_assoc, List.take_append, hlen, List.take_of_length_le (by omega), show (k + 1) * 5 - k * 5 = 5 from by omega, ← hT, hdr, List.append_nil, List.append_assoc]
 rw [hs]
 match T, hT5 with
 | [t0, t1, t2, t3, t4], _ =>
   rw [List.set_append_right _ _ (by omega), List.set_append_right _ _ (by omega), List.set_append_right _ _ (by omega), List.set_append_right _ _ (by omega), List.set_append_right _ _ (by omega), hlen]
   rw [show k * 5 - k * 5 = 0 from by omega, show k * 5 + 1 - k * 5 = 1 from by omega, show k * 5 + 2 - k * 5 = 2 from by omega, show k * 5 + 3 - k * 5 = 3 from by omega, show k * 5 + 4 - k * 5 = 4 from by omega]
   rw [rowsV_app]
   congr 1
set_option maxRecDepth 100000 in
set_option maxHeartbeats 4000000 in
theorem enrolled_yes (day pa le id v : Int) (A : Option Addr) (n c base : Nat) (l : List R5) (w : World) (h : w.ownsRow base 111 5 (.slice A n c) n (rowsV l)) (hbase : base ≤ w.heap.size) (hn : n ≤ 8) (hf : findI l id < 0) (hv : inB v 0 5 = true) :
 Calls Tryz.prog 85 #[schV day A n c pa le, .agg #[.int .i64 2, .int .i64 id, .int .i64 v]] w (RetE (some (insS l id v day)) day pa le base (.slice A n c) w) := by
 obtain ⟨i0, ji, jz0, jz1, jz2⟩ := info_parts info_stu
 have HA := Lib.hid (fun w h => at_any day pa le id A n c l w (by omega) h)
 have HW := Lib.hid (inB_within v 0 5)
 rw [hv] at HW
 obtain ⟨z, hz⟩ : ∃ z, findI l id = z := ⟨_, rfl⟩
 rw [hz] at HA hf
 have HR := Lib.hid (Reads.of_own h)
 have HL := Lib.hid (rows_len (Reads.of_own h))
 have h0 := Lib.hid h
 clear hz hv h
 go_enter Tryz.func85, Tryz.ntmps85
 go_wp2_with fail
 refine (HA.out _ ((HR.out.ext (ext_alloc (ext_alloc (ext_alloc (ext_refl _) _) _) _) (Nat.le_refl _)).more (by simp; omega))).mono ?_
 rintro e w1 ⟨rfl, hb1⟩
 obtain ⟨hc1, hf1⟩ := bcell hb1
 have z0 : w.heap.size + 1 + 1 < w1.heap.size := by (have := hb1.size; simp at this; omega)
 have z1 : w.heap.size + 1 < w1.heap.size := by omega
 have z2 : w.heap.size < w1.heap.size := by omega
 have BX : Hid (Blk w1 w.heap.size 32 #[.int .i64 day, .slice A n c, .int .i64 pa, .int .i64 le]) := Lib.hid (((Blk.new w _ _).ext (ext_alloc (ext_alloc (ext_refl _) _) _)).ext hb1)
 have BY : Hid (Blk w1 (w.heap.size + 1) 82 #[.int .i64 2, .int .i64 id, .int .i64 v]) := Lib.hid (by
  have := ((Blk.new (w.alloc (.cells #[.int .i64 day, .slice A n c, .int .i64 pa, .int .i64 le] 32)) #[.int .i64 2, .int .i64 id, .int .i64 v] 82).ext (ext_alloc (ext_refl _) (.cells #[.int .i64 0, .slice none 0 0, .int .i64 0, .int .i64 0] 32))).ext hb1
  simpa using this)
 have BR : Hid (Blk w1 (w.heap.size + 1 + 1) 32 #[.int .i64 0, .slice none 0 0, .int .i64 0, .int .i64 0]) := Lib.hid (by
  have := (Blk.new ((w.alloc (.cells #[.int .i64 day, .slice A n c, .int .i64 pa, .int .i64 le] 32)).alloc (.cells #[.int .i64 2, .int .i64 id, .int .i64 v] 82)) #[.int .i64 0, .slice none 0 0, .int .i64 0, .int .i64 0] 32).ext hb1
  simpa using this)
 have hbw := Lib.hid (ext_trans (ext_alloc (ext_alloc (ext_alloc (ext_refl w) _) _) _) hb1)
 have HO := Lib.hid (own_ext h0.out hbw.out)
 clear hb1
 have M1 : Hid (n + 1 ≤ maxLen) := Lib.hid (by unfold maxLen; omega)
 have M2 : Hid ((n + 1) * 40 ≤ 140737488355328) := Lib.hid (by omega)
 go_wp2_with (go_at_call 37; refine (HW.out _).mono ?_; rintro e w' ⟨rfl, rfl⟩)
 clear hc1 hf1
 go_loopw [6] (fun i wr => ∃ k : Nat, k ≤ n ∧ i = .int .i64 k ∧ Hid (Below w1.heap.size w1 wr) ∧ Hid (lowTo l id k)) (fun i _ => n - (intOf i).toNat)
 case atStart => exact ⟨0, Nat.zero_le _, rfl, Lib.hid (ext_refl _), Lib.hid (lowTo_zero _ _)⟩
 case round =>
  obtain ⟨k, hk, rfl, hbl, hlow⟩ := hrel
  have xr1 : wr.cell? ⟨w.heap.size, 1, none⟩ = some (.slice A n c) := ext_cell hbl.out (BX.out.cell 1)
  have yr1 : wr.cell? ⟨w.heap.size + 1, 1, none⟩ = some (.int .i64 id) := ext_cell hbl.out (BY.out.cell 1)
  have zr := hbl.out.size
  have zr2 : w.heap.size < wr.heap.size := by omega
  have zr1 : w.heap.size + 1 < wr.heap.size := by omega
  by_cases hlt : k < n
  · obtain ⟨r, hr⟩ := list_split (l := l) (k := k) (by rw [HL.out]; exact hlt)
    have hor := own_ext HO.out hbl.out
    obtain ⟨b, o, hA, hbb, c0, _, _, _, _⟩ := rows_at (Reads.of_own hor) hr
    subst hA
    have hlti : (k : Int) < n := by omega
    clear hor
    by_cases hra : r.a < id
    · have hlow2 := Lib.hid (lowTo_succ hlow.out hr hra)
      clear hr
      go_wp2
      (refine wp_region_later (by kernel_rfl) (by kernel_rfl) ?_; (repeat (go_big_quiet_step (fail))); refine wpQuiet_nil ?_; intro wq hw1; obtain ⟨⟨wl, hb⟩, hw1'⟩ := hw1; simp only at hw1'; subst hw1')
      have bq := Lib.hid (ext_trans hbl.out hb)
      clear hb
      go_wp2
      go_roundw
      case rel => exact ⟨k + 1, by omega, by go_num, bq, hlow2⟩
      case measure => simp [intOf]; omega
    · have hins := Lib.hid (ins_at (v := v) (day := day) hlow.out (by rw [HL.out]; exact hk) (fun s hs => by rw [hr] at hs; injection hs with hs; rw [← hs]; exact hra))
      clear hr hlow
      go_wp2
      (refine wp_region_later (by kernel_rfl) (by kernel_rfl) ?_; (repeat (go_big_quiet_step (fail))); refine wpQuiet_nil ?_; intro wq hw1; obtain ⟨⟨wl, hb⟩, hw1'⟩ := hw1; simp only at hw1'; subst hw1')
      have bq := Lib.hid (ext_trans hbl.out hb)
      have zq : w1.heap.size ≤ wq.heap.size := bq.out.size
      have GX := Lib.hid (BX.out.ext bq.out)
      have GY := Lib.hid (BY.out.ext bq.out)
      have GR := Lib.hid (BR.out.ext bq.out)
      have GO := Lib.hid (own_ext HO.out bq.out)
      obtain ⟨x0, x1, x2, x3⟩ := GX.out.q4
      obtain ⟨fx0, fx1, fx2, fx3⟩ := GX.out.z4
      obtain ⟨y0, y1, y2⟩ := GY.out.q3
      obtain ⟨fy0, fy1, fy2⟩ := GY.out.z3
      clear hb
      go_wp2_with (at_builtin; refine wpList_append_own_at _ rfl (.tmp 38) (.tmp 40) 30 rfl base 111 i0 _ 5 40 Tryz.underlying30 ji jz0 jz1 jz2 rfl (by decide) _ n (rowsV l) rfl (GO.out.alloc _) ⟨wq.heap.size, 0, none⟩ 1 1 zero5 rfl rfl (cells_new_at _ zero5 _ rfl) zero5_one M1.out M2.out (by simp; omega) ?_; intro v2 w2 hown2 hg2 _ hat; obtain ⟨A2, c2, rfl⟩ := own_shape hown2; obtain ⟨g2, cap2, hv2, _, hglt⟩ := hown2.form (by omega); injection hv2 with hv2 _ hc2; subst hv2; clear hc2; have hat := Lib.hid (show (Value.slice (some ⟨b, o, none⟩) n c).ownBlock = some g2 ∨ w.heap.size ≤ g2 from at_or hat (by simp; omega)); have hown2 := Lib.hid hown2; have b2 := Lib.hid (gr_alloc hg2); have GX2 := (GX.out.ext (ext_alloc (ext_refl _) (.cells zero5.toArray 111))).grown hg2 (own_far_ge h0.out (Nat.le_refl _)); have GY2 := (GY.out.ext (ext_alloc (ext_refl _) (.cells zero5.toArray 111))).grown hg2 (own_far_ge h0.out (by omega)); have GR2 := (GR.out.ext (ext_alloc (ext_refl _) (.cells zero5.toArray 111))).grown hg2 (own_far_ge h0.out (by omega)); have n0 : g2 ≠ w.heap.size := own_ne_blk hown2.out GX2 (by decide); have n1 : g2 ≠ w.heap.size + 1 := own_ne_blk hown2.out GY2 (by decide); have n2 : g2 ≠ w.heap.size + 1 + 1 := own_ne_blk hown2.out GR2 (by decide); have zz : wq.heap.size + 1 ≤ w2.heap.size := (by have := hg2.size; simpa using this); have GX2 := Lib.hid GX2; have GY2 := Lib.hid GY2; have GR2 := Lib.hid GR2; clear hg2; obtain ⟨p0, p1, p2, p3⟩ := GX2.out.q4; obtain ⟨fp0, fp1, fp2, fp3⟩ := GX2.out.z4; clear x0 x1 x2 x3 y0 y1 y2 fx0 fx1 fx2 fx3 fy0 fy1 fy2)
      have hcap := own_cap hown2.out
      have hck : ¬ c2 = k := by omega
      have hck1 : ¬ c2 = k + 1 := by omega
      obtain ⟨w5, hw5⟩ : ∃ w5, w5 = w2.setCell ⟨w.heap.size, 1, none⟩ (.slice (some ⟨g2, 0, none⟩) (n + 1) c2) := ⟨_, rfl⟩
      have HW5 := Lib.hid hw5
      have GX5 : Hid (Blk w5 w.heap.size 32 #[.int .i64 day, .slice (some ⟨g2, 0, none⟩) (n + 1) c2, .int .i64 pa, .int .i64 le]) := Lib.hid (by rw [hw5]; have := GX2.out.set_ 1 (.slice (some ⟨g2, 0, none⟩) (n + 1) c2); simpa using this)
      have GY5 : Hid (Blk w5 (w.heap.size + 1) 82 #[.int .i64 2, .int .i64 id, .int .i64 v]) := Lib.hid (by rw [hw5]; exact GY2.out.set_far (by show w.heap.size ≠ _; omega) _)
      have GR5 : Hid (Blk w5 (w.heap.size + 1 + 1) 32 #[.int .i64 0, .slice none 0 0, .int .i64 0, .int .i64 0]) := Lib.hid (by rw [hw5]; exact GR2.out.set_far (by show w.heap.size ≠ _; omega) _)
      have O5 : Hid (w5.ownsRow base 111 5 (.slice (some ⟨g2, 0, none⟩) (n + 1) c2) (n + 1) (rowsV l ++ zero5)) := Lib.hid (by rw [hw5]; exact own_set_ne hown2.out (Ne.symm n0) _)
      have z5 : w2.heap.size = w5.heap.size := by rw [hw5]; simp [World.setCell]
      have b5 := Lib.hid (show w.grownBy w5 (Value.slice (some ⟨b, o, none⟩) n c).ownBlock from by rw [hw5]; exact only_set_new (gr_chain (ext_trans hbw.out bq.out) b2.out) (by simp) _)
      rw [← hw5]
      clear hw5
      obtain ⟨q0, q1, q2, q3⟩ := GX5.out.q4
      obtain ⟨fq0, fq1, fq2, fq3⟩ := GX5.out.z4
      clear p0 p1 p2 p3 fp0 fp1 fp2 fp3

      (refine wp_region_later_tail 9 (by kernel_rfl) (by kernel_rfl) ?_; simp only [List.take_succ_cons, List.take_zero, List.drop_succ_cons, List.drop_zero]; (repeat (go_big_quiet_step (fail))); refine wpQuiet_nil ?_; intro w1 hw1; obtain ⟨⟨wl, hbL⟩, hw1'⟩ := hw1; simp only at hw1'; subst hw1'; obtain ⟨hcL, hfL⟩ := bcell hbL)
      have bL := Lib.hid hbL
      have zL : w5.heap.size ≤ w1.heap.size := hbL.size
      have TO := Lib.hid (own_ext O5.out hbL)
      have TX := Lib.hid (GX5.out.ext hbL)
      have TY := Lib.hid (GY5.out.ext hbL)
      have TR := Lib.hid (GR5.out.ext hbL)
      clear hbL hcL hfL q0 q1 q2 q3 fq0 fq1 fq2 fq3
      go_wp2_with ((with_reducible refine wpList_copy_rows rfl (.tmp 47) (.tmp 51) 30 30 rfl 111 i0 5 Tryz.underlying30 ji jz1 _ _ _ _ _ _ rfl rfl base g2 (n + 1) c2 _ TO.out ((k + 1) * 5) (rowsV (l.drop k)) (copy_len HL.out (by omega)) (fun h0 => ⟨by first | rfl | (split <;> first | rfl | omega), _, by first | rfl | (split <;> first | rfl | omega), rows_copy_src TO.out HL.out (by omega)⟩) (copy_fit HL.out (by omega)) (rows_one _) ?_); intro w7 hown7 hg7; have hown7 := Lib.hid hown7; have hg7 := Lib.hid hg7; have UX := TX.out.grown hg7.out (ne_some n0); have UY := TY.out.grown hg7.out (ne_some n1); have UR := TR.out.grown hg7.out (ne_some n2); obtain ⟨q0, q1, q2, q3⟩ := UX.q4; obtain ⟨fq0, fq1, fq2, fq3⟩ := UX.z4; obtain ⟨y0, y1, y2⟩ := UY.q3; obtain ⟨fy0, fy1, fy2⟩ := UY.z3; obtain ⟨r0, r1, r2, r3⟩ := UR.q4; obtain ⟨fr0, fr1, fr2, fr3⟩ := UR.z4; clear UX UY UR; obtain ⟨t0, ht0⟩ : ∃ u, w7.cell? ⟨g2, k * 5, none⟩ = some u := (by rw [hown7.out.cellAt (k * 5) (by omega)]; exact list_split (by have := hown7.out.1; omega)); have ft0 := hown7.out.frozenAt (k * 5); obtain ⟨t1, ht1⟩ : ∃ u, w7.cell? ⟨g2, k * 5 + 1, none⟩ = some u := (by rw [hown7.out.cellAt (k * 5 + 1) (by omega)]; exact list_split (by have := hown7.out.1; omega)); have ft1 := hown7.out.frozenAt (k * 5 + 1); obtain ⟨t2, ht2⟩ : ∃ u, w7.cell? ⟨g2, k * 5 + 2, none⟩ = some u := (by rw [hown7.out.cellAt (k * 5 + 2) (by omega)]; exact list_split (by have := hown7.out.1; omega)); have ft2 := hown7.out.frozenAt (k * 5 + 2); obtain ⟨t3, ht3⟩ : ∃ u, w7.cell? ⟨g2, k * 5 + 3, none⟩ = some u := (by rw [hown7.out.cellAt (k * 5 + 3) (by omega)]; exact list_split (by have := hown7.out.1; omega)); have ft3 := hown7.out.frozenAt (k * 5 + 3); obtain ⟨t4, ht4⟩ : ∃ u, w7.cell? ⟨g2, k * 5 + 4, none⟩ = some u := (by rw [hown7.out.cellAt (k * 5 + 4) (by omega)]; exact list_split (by have := hown7.out.1; omega)); have ft4 := hown7.out.frozenAt (k * 5 + 4))
      have hLL : (insS l id v day).length = n + 1 := by rw [insS_len, HL.out]
      refine bodyPost_ret (v := .tuple #[schV day (some ⟨g2, 0, none⟩) (n + 1) c2 pa le, .bool true]) (by simp [results, Tryz.results85, go_sem, *]) rfl ?_
      unfold RetE
      dsimp only
      rw [hLL]
      refine ⟨_, _, rfl, ?_, ?_⟩
      · iterate 4 refine own_set_ne ?_ (Ne.symm n2) _
        rw [hins.out, ← ins_cells HL.out hk (zs := zero5) rfl ⟨id, v, 0, day, 0⟩]
        exact (((((hown7.out.stored _ _).1.stored _ _).1.stored _ _).1.stored _ _).1.stored _ _).1
      · iterate 4 refine only_set_new ?_ (by show w.heap.size ≤ w.heap.size + 1 + 1; omega) _
        iterate 5 refine only_set_or ?_ hat.out _
        exact gr_join b5.out (by have := z5; have := zz; have := zq; omega) bL.out hg7.out hat.out
  · obtain rfl : k = n := by omega
    have hins := Lib.hid (ins_at (v := v) (day := day) hlow.out (by rw [HL.out]; exact hk) (fun s hs => by have := (List.getElem?_eq_some_iff.1 hs).1; rw [HL.out] at this; omega))
    clear hlow
    have hkn : ¬ (k : Int) < k := by omega
    go_wp2
    (refine wp_region_later (by kernel_rfl) (by kernel_rfl) ?_; (repeat (go_big_quiet_step (fail))); refine wpQuiet_nil ?_; intro wq hw1; obtain ⟨⟨wl, hb⟩, hw1'⟩ := hw1; simp only at hw1'; subst hw1')
    have bq := Lib.hid (ext_trans hbl.out hb)
    have zq : w1.heap.size ≤ wq.heap.size := bq.out.size
    have GX := Lib.hid (BX.out.ext bq.out)
    have GY := Lib.hid (BY.out.ext bq.out)
    have GR := Lib.hid (BR.out.ext bq.out)
    have GO := Lib.hid (own_ext HO.out bq.out)
    obtain ⟨x0, x1, x2, x3⟩ := GX.out.q4
    obtain ⟨fx0, fx1, fx2, fx3⟩ := GX.out.z4
    obtain ⟨y0, y1, y2⟩ := GY.out.q3
    obtain ⟨fy0, fy1, fy2⟩ := GY.out.z3
    clear hb
    go_wp2_with (at_builtin; refine wpList_append_own_at _ rfl (.tmp 38) (.tmp 40) 30 rfl base 111 i0 _ 5 40 Tryz.underlying30 ji jz0 jz1 jz2 rfl (by decide) _ k (rowsV l) rfl (GO.out.alloc _) ⟨wq.heap.size, 0, none⟩ 1 1 zero5 rfl rfl (cells_new_at _ zero5 _ rfl) zero5_one M1.out M2.out (by simp; omega) ?_; intro v2 w2 hown2 hg2 _ hat; obtain ⟨A2, c2, rfl⟩ := own_shape hown2; obtain ⟨g2, cap2, hv2, _, hglt⟩ := hown2.form (by omega); injection hv2 with hv2 _ hc2; subst hv2; clear hc2; have hat := Lib.hid (show (Value.slice A k c).ownBlock = some g2 ∨ w.heap.size ≤ g2 from at_or hat (by simp; omega)); have hown2 := Lib.hid hown2; have b2 := Lib.hid (gr_alloc hg2); have GX2 := (GX.out.ext (ext_alloc (ext_refl _) (.cells zero5.toArray 111))).grown hg2 (own_far_ge h0.out (Nat.le_refl _)); have GY2 := (GY.out.ext (ext_alloc (ext_refl _) (.cells zero5.toArray 111))).grown hg2 (own_far_ge h0.out (by omega)); have GR2 := (GR.out.ext (ext_alloc (ext_refl _) (.cells zero5.toArray 111))).grown hg2 (own_far_ge h0.out (by omega)); have n0 : g2 ≠ w.heap.size := own_ne_blk hown2.out GX2 (by decide); have n1 : g2 ≠ w.heap.size + 1 := own_ne_blk hown2.out GY2 (by decide); have n2 : g2 ≠ w.heap.size + 1 + 1 := own_ne_blk hown2.out GR2 (by decide); have zz : wq.heap.size + 1 ≤ w2.heap.size := (by have := hg2.size; simpa using this); have GX2 := Lib.hid GX2; have GY2 := Lib.hid GY2; have GR2 := Lib.hid GR2; clear hg2; obtain ⟨p0, p1, p2, p3⟩ := GX2.out.q4; obtain ⟨fp0, fp1, fp2, fp3⟩ := GX2.out.z4; clear x0 x1 x2 x3 y0 y1 y2 fx0 fx1 fx2 fx3 fy0 fy1 fy2)
    have hcap := own_cap hown2.out
    have hck : ¬ c2 = k := by omega
    obtain ⟨w5, hw5⟩ : ∃ w5, w5 = w2.setCell ⟨w.heap.size, 1, none⟩ (.slice (some ⟨g2, 0, none⟩) (k + 1) c2) := ⟨_, rfl⟩
    have HW5 := Lib.hid hw5
    have GX5 : Hid (Blk w5 w.heap.size 32 #[.int .i64 day, .slice (some ⟨g2, 0, none⟩) (k + 1) c2, .int .i64 pa, .int .i64 le]) := Lib.hid (by rw [hw5]; have := GX2.out.set_ 1 (.slice (some ⟨g2, 0, none⟩) (k + 1) c2); simpa using this)
    have GY5 : Hid (Blk w5 (w.heap.size + 1) 82 #[.int .i64 2, .int .i64 id, .int .i64 v]) := Lib.hid (by rw [hw5]; exact GY2.out.set_far (by show w.heap.size ≠ _; omega) _)
    have GR5 : Hid (Blk w5 (w.heap.size + 1 + 1) 32 #[.int .i64 0, .slice none 0 0, .int .i64 0, .int .i64 0]) := Lib.hid (by rw [hw5]; exact GR2.out.set_far (by show w.heap.size ≠ _; omega) _)
    have O5 : Hid (w5.ownsRow base 111 5 (.slice (some ⟨g2, 0, none⟩) (k + 1) c2) (k + 1) (rowsV l ++ zero5)) := Lib.hid (by rw [hw5]; exact own_set_ne hown2.out (Ne.symm n0) _)
    have z5 : w2.heap.size = w5.heap.size := by rw [hw5]; simp [World.setCell]
    have b5 := Lib.hid (show w.grownBy w5 (Value.slice A k c).ownBlock from by rw [hw5]; exact only_set_new (gr_chain (ext_trans hbw.out bq.out) b2.out) (by simp) _)
    rw [← hw5]
    clear hw5
    obtain ⟨q0, q1, q2, q3⟩ := GX5.out.q4
    obtain ⟨fq0, fq1, fq2, fq3⟩ := GX5.out.z4
    clear p0 p1 p2 p3 fp0 fp1 fp2 fp3

    (refine wp_region_later_tail 9 (by kernel_rfl) (by kernel_rfl) ?_; simp only [List.take_succ_cons, List.take_zero, List.drop_succ_cons, List.drop_zero]; (repeat (go_big_quiet_step (fail))); refine wpQuiet_nil ?_; intro w1 hw1; obtain ⟨⟨wl, hbL⟩, hw1'⟩ := hw1; simp only at hw1'; subst hw1'; obtain ⟨hcL, hfL⟩ := bcell hbL)
    have bL := Lib.hid hbL
    have zL : w5.heap.size ≤ w1.heap.size := hbL.size
    have TO := Lib.hid (own_ext O5.out hbL)
    have TX := Lib.hid (GX5.out.ext hbL)
    have TY := Lib.hid (GY5.out.ext hbL)
    have TR := Lib.hid (GR5.out.ext hbL)
    clear hbL hcL hfL q0 q1 q2 q3 fq0 fq1 fq2 fq3
    go_wp2_with ((with_reducible refine wpList_copy_rows rfl (.tmp 47) (.tmp 51) 30 30 rfl 111 i0 5 Tryz.underlying30 ji jz1 _ _ _ _ _ _ rfl rfl base g2 (k + 1) c2 _ TO.out ((k + 1) * 5) (rowsV (l.drop k)) (by rw [rowsV_len, List.length_drop, HL.out]; simp [Nat.min_def] <;> omega) (fun h0 => absurd h0 (by simp [Nat.min_def] <;> omega)) (copy_fit HL.out (by omega)) (rows_one _) ?_); intro w7 hown7 hg7; have hown7 := Lib.hid hown7; have hg7 := Lib.hid hg7; have UX := TX.out.grown hg7.out (ne_some n0); have UY := TY.out.grown hg7.out (ne_some n1); have UR := TR.out.grown hg7.out (ne_some n2); obtain ⟨q0, q1, q2, q3⟩ := UX.q4; obtain ⟨fq0, fq1, fq2, fq3⟩ := UX.z4; obtain ⟨y0, y1, y2⟩ := UY.q3; obtain ⟨fy0, fy1, fy2⟩ := UY.z3; obtain ⟨r0, r1, r2, r3⟩ := UR.q4; obtain ⟨fr0, fr1, fr2, fr3⟩ := UR.z4; clear UX UY UR; obtain ⟨t0, ht0⟩ : ∃ u, w7.cell? ⟨g2, k * 5, none⟩ = some u := (by rw [hown7.out.cellAt (k * 5) (by omega)]; exact list_split (by have := hown7.out.1; omega)); have ft0 := hown7.out.frozenAt (k * 5); obtain ⟨t1, ht1⟩ : ∃ u, w7.cell? ⟨g2, k * 5 + 1, none⟩ = some u := (by rw [hown7.out.cellAt (k * 5 + 1) (by omega)]; exact list_split (by have := hown7.out.1; omega)); have ft1 := hown7.out.frozenAt (k * 5 + 1); obtain ⟨t2, ht2⟩ : ∃ u, w7.cell? ⟨g2, k * 5 + 2, none⟩ = some u := (by rw [hown7.out.cellAt (k * 5 + 2) (by omega)]; exact list_split (by have := hown7.out.1; omega)); have ft2 := hown7.out.frozenAt (k * 5 + 2); obtain ⟨t3, ht3⟩ : ∃ u, w7.cell? ⟨g2, k * 5 + 3, none⟩ = some u := (by rw [hown7.out.cellAt (k * 5 + 3) (by omega)]; exact list_split (by have := hown7.out.1; omega)); have ft3 := hown7.out.frozenAt (k * 5 + 3); obtain ⟨t4, ht4⟩ : ∃ u, w7.cell? ⟨g2, k * 5 + 4, none⟩ = some u := (by rw [hown7.out.cellAt (k * 5 + 4) (by omega)]; exact list_split (by have := hown7.out.1; omega)); have ft4 := hown7.out.frozenAt (k * 5 + 4))
    all_goals
     have hLL : (insS l id v day).length = k + 1 := by rw [insS_len, HL.out]
     refine bodyPost_ret (v := .tuple #[schV day (some ⟨g2, 0, none⟩) (k + 1) c2 pa le, .bool true]) (by simp [results, Tryz.results85, go_sem, *]) rfl ?_
     unfold RetE
     dsimp only
     rw [hLL]
     refine ⟨_, _, rfl, ?_, ?_⟩
     · iterate 4 refine own_set_ne ?_ (Ne.symm n2) _
       rw [hins.out, ← ins_cells HL.out hk (zs := zero5) rfl ⟨id, v, 0, day, 0⟩]
       exact (((((hown7.out.stored _ _).1.stored _ _).1.stored _ _).1.stored _ _).1.stored _ _).1
     · iterate 4 refine only_set_new ?_ (by show w.heap.size ≤ w.heap.size + 1 + 1; omega) _
       iterate 5 refine only_set_or ?_ hat.out _
       exact gr_join b5.out (by have := z5; have := zz; have := zq; omega) bL.out hg7.out hat.out

end Go.Proofs.YtkcbgiegoadkbaaGreat
