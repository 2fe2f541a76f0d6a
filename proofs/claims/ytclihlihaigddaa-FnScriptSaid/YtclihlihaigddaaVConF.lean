/- FormatConsole: program and reference, walked. -/
import Derived.Test.YtclihlihaigddaaVM3
import Derived.Test.YtclihlihaigddaaVM1
namespace Go.Proofs.Ytclihlihaigddaa
open Go.RowKit
set_option linter.unusedVariables false
set_option linter.unusedSimpArgs false
theorem asc_step {l : List R5} {k : Nat} {r s : R5} (h : okTo l l.length = true) (hr : l[k + 1]? = some r) (hs : l[k]? = some s) : s.a < r.a := by
 rw [okTo, List.all_eq_true] at h
 have hk := (List.getElem?_eq_some_iff.1 hr).1
 have := h (k + 1) (by simpa using hk)
 simp only [okAt, hr, Bool.and_eq_true, Bool.or_eq_true, decide_eq_true_eq] at this
 have h2 := this.2
 simp only [Nat.add_sub_cancel, hs, decide_eq_true_eq] at h2
 omega
theorem asc_all {l : List R5} (h : okTo l l.length = true) : ∀ (k i : Nat) (r s : R5), l[k]? = some r → l[i]? = some s → i < k → s.a < r.a := by
 intro k
 induction k with
 | zero => intro i r s _ _ hi; omega
 | succ k ih =>
   intro i r s hr hs hi
   obtain ⟨q, hq⟩ := list_split (l := l) (k := k) (by have := (List.getElem?_eq_some_iff.1 hr).1; omega)
   have h1 := asc_step h hr hq
   by_cases e : i = k
   · subst e; rw [hq] at hs; injection hs with hs; rw [← hs]; exact h1
   · have := ih i q s hq hs (by omega)
     omega
theorem sch_ok {day pa le : Int} {l : List R5} (h : schB day l pa le = true) : okTo l l.length = true := by
 simp only [schB, Bool.and_eq_true] at h
 exact h.2
theorem find_at {day pa le : Int} {l : List R5} (h : schB day l pa le = true) {k : Nat} {r : R5} (hr : l[k]? = some r) : findI l r.a = k :=
 findI_hit (fun i s hi hs => by have := asc_all (sch_ok h) k i r s hr hs hi; omega) hr rfl
/-- the line of a student -/
def stuLine (r : R5) : ByteArray := ((decI r.a ++ ⟨#[58, 32]⟩) ++ stuT r) ++ ⟨#[10]⟩
theorem stuT_size (r : R5) : (stuT r).size ≤ 110 := by
 have := decI_size r.b
 have := decI_size r.c
 have := decI_size r.d
 have := decI_size r.e
 unfold stuT
 simp only [ByteArray.size_append, lit_size]
 simp
 omega
theorem stuLine_size (r : R5) : (stuLine r).size ≤ 140 := by
 have := decI_size r.a
 have := stuT_size r
 unfold stuLine
 simp only [ByteArray.size_append, lit_size]
 simp
 omega
def fmtF (l : List R5) : Nat → ByteArray
 | 0 => ⟨#[]⟩
 | k + 1 => fmtF l k ++ (match l[k]? with | some r => stuLine r | none => ⟨#[]⟩)
theorem fmtF_succ {l : List R5} {k : Nat} {r : R5} (h : l[k]? = some r) : fmtF l (k + 1) = fmtF l k ++ stuLine r := by simp [fmtF, h]
theorem fmtF_size (l : List R5) : ∀ k, (fmtF l k).size ≤ k * 140 := by
 intro k
 induction k with
 | zero => exact Nat.le_refl 0
 | succ k ih =>
   unfold fmtF
   rw [ByteArray.size_append]
   split
   · have := stuLine_size (by assumption); omega
   · have : (⟨#[]⟩ : ByteArray).size = 0 := rfl
     omega
/-- the text of a valid console -/
def fmtC (day : Int) (l : List R5) (pa le z : Int) : ByteArray := fmtF l l.length ++ ⟨#[100, 97, 121, 32]⟩ ++ decI day ++ ⟨#[59, 32, 112, 97, 115, 115, 101, 100, 32]⟩ ++ decI pa ++ ⟨#[59, 32, 108, 101, 102, 116, 32]⟩ ++ decI le ++ ⟨#[59, 32, 114, 101, 99, 111, 114, 100, 115, 32]⟩ ++ decI z ++ ⟨#[10]⟩
def fmtS (day : Int) (l : List R5) (pa le : Int) (d p : ByteArray) (z : Int) : ByteArray := if conB day l pa le d p z = true then fmtC day l pa le z else ⟨#[]⟩
set_option maxRecDepth 100000 in
set_option maxHeartbeats 4000000 in
theorem implFormat_any (day pa le : Int) (d p : ByteArray) (z : Int) (A : Option Addr) (n c : Nat) (l : List R5) (w : World) (hn : n ≤ 1048576) (hd : d.size ≤ 2000000) (hp : p.size ≤ 2000000) (h : Reads w w.heap.size 5 A n (rowsV l)) :
 Calls Try.prog 25 #[conV day A n c pa le d p z] w fun e w' => e = .returned (.tuple #[.string (fmtS day l pa le d p z), .bool (conB day l pa le d p z)]) ∧ Below w.heap.size w w' := by
 have HV := Lib.hid (fun (w : World) h => implIsValidConsole_any day pa le d p z A n c l w hn hd hp h)
 have H := Lib.hid h
 have HL := Lib.hid (rows_len h)
 unfold fmtS
 clear h
 rcases hb : conB day l pa le d p z with _ | _
 · rw [hb] at HV
   clear hb
   rw [if_neg (by simp)]
   go_enter Try.func25, Try.ntmps25
   go_wp2_with fail
   refine (HV.out _ ((H.out.ext (ext_alloc (ext_refl _) _) (Nat.le_refl _)).more (by simp))).mono ?_
   rintro e w1 ⟨rfl, hb1⟩
   have b1 := Lib.hid (ext_trans (ext_alloc (ext_refl w) _) hb1)
   clear hb1
   go_wp2
   go_ret2
   exact ⟨rfl, b1.out⟩
 rw [hb] at HV
 rw [if_pos rfl]
 have hsl : schB day l pa le = true ∧ logB d p z = true := by simpa [conB] using hb
 have hday := schB_day hsl.1
 have hpl := schB_pa hsl.1
 have hz := logB_count hsl.2
 have hln := schB_len hsl.1
 have hn8 : n ≤ 8 := by rw [← HL.out]; exact hln
 have HS := Lib.hid hsl.1
 clear hb hsl
 have b_day : -9223372036854775807 ≤ day ∧ day ≤ 9223372036854775807 := by omega
 have b_pa : -9223372036854775807 ≤ pa ∧ pa ≤ 9223372036854775807 := by omega
 have b_le : -9223372036854775807 ≤ le ∧ le ≤ 9223372036854775807 := by omega
 have b_z : -9223372036854775807 ≤ z ∧ z ≤ 9223372036854775807 := by omega
 have hF : fmtC day l pa le z = fmtF l n ++ ⟨#[100, 97, 121, 32]⟩ ++ decI day ++ ⟨#[59, 32, 112, 97, 115, 115, 101, 100, 32]⟩ ++ decI pa ++ ⟨#[59, 32, 108, 101, 102, 116, 32]⟩ ++ decI le ++ ⟨#[59, 32, 114, 101, 99, 111, 114, 100, 115, 32]⟩ ++ decI z ++ ⟨#[10]⟩ := by rw [fmtC, HL.out]
 have s1 := decI_size day
 have s2 := decI_size pa
 have s3 := decI_size le
 have s4 := decI_size z
 obtain ⟨FC, hFC⟩ : ∃ FC, fmtC day l pa le z = FC := ⟨_, rfl⟩
 rw [hFC] at hF ⊢
 have HF := Lib.hid hF
 clear hF hFC
 go_enter Try.func25, Try.ntmps25
 go_wp2_with fail
 refine (HV.out _ ((H.out.ext (ext_alloc (ext_refl _) _) (Nat.le_refl _)).more (by simp))).mono ?_
 rintro e w1 ⟨rfl, hb1⟩
 have z0 : w.heap.size < w1.heap.size := by (have := hb1.size; simp at this; omega)
 have b1 := Lib.hid (ext_trans (ext_alloc (ext_refl w) _) hb1)
 have BX := Lib.hid ((Blk.new w #[.int .i64 day, .slice A n c, .int .i64 pa, .int .i64 le, .string d, .string p, .int .i64 z] 28).ext hb1)
 obtain ⟨g0, g1, g2, g3, g4, g5, g6⟩ := BX.out.q7
 obtain ⟨fg0, fg1, fg2, fg3, fg4, fg5, fg6⟩ := BX.out.z7
 clear hb1
 go_wp2
 go_loopw [4, 16] (fun o i wr => ∃ k : Nat, k ≤ n ∧ i = .int .i64 k ∧ Hid (Below w1.heap.size w1 wr) ∧ ∃ O : ByteArray, o = .string O ∧ O.size ≤ k * 140 ∧ Hid (fmtF l k = O)) (fun _ i _ => n - (intOf i).toNat)
 case atStart => exact ⟨0, Nat.zero_le _, rfl, Lib.hid (ext_refl _), ⟨#[]⟩, rfl, Nat.zero_le _, Lib.hid rfl⟩
 case round =>
  clear g0 fg0 g1 fg1 g2 fg2 g3 fg3 g4 fg4 g5 fg5 g6 fg6
  obtain ⟨k, hk, rfl, hbl, O, rfl, hO, HO⟩ := hrel
  have hO3 : O.size ≤ 1200 := by omega
  have x0 : wr.cell? ⟨w.heap.size, 0, none⟩ = some (.int .i64 day) := ext_cell hbl.out (BX.out.cell 0)
  have x1 : wr.cell? ⟨w.heap.size, 1, none⟩ = some (.slice A n c) := ext_cell hbl.out (BX.out.cell 1)
  have x2 : wr.cell? ⟨w.heap.size, 2, none⟩ = some (.int .i64 pa) := ext_cell hbl.out (BX.out.cell 2)
  have x3 : wr.cell? ⟨w.heap.size, 3, none⟩ = some (.int .i64 le) := ext_cell hbl.out (BX.out.cell 3)
  have x4 : wr.cell? ⟨w.heap.size, 4, none⟩ = some (.string d) := ext_cell hbl.out (BX.out.cell 4)
  have x5 : wr.cell? ⟨w.heap.size, 5, none⟩ = some (.string p) := ext_cell hbl.out (BX.out.cell 5)
  have x6 : wr.cell? ⟨w.heap.size, 6, none⟩ = some (.int .i64 z) := ext_cell hbl.out (BX.out.cell 6)
  have zr := hbl.out.size
  have zr0 : w.heap.size < wr.heap.size := by omega
  by_cases hlt : k < n
  · obtain ⟨r, hr⟩ := list_split (l := l) (k := k) (by rw [HL.out]; exact hlt)
    obtain ⟨b, o, hAd, hbb, c0, c1, c2, c3, c4⟩ := rows_at ((H.out.ext b1.out (Nat.le_refl _)).ext hbl.out (by omega)) hr
    have hst := schB_mem HS.out (List.mem_of_getElem? hr)
    obtain ⟨q1, q2, q3, q4, q5⟩ := stu_bounds hst
    have t1 := stuT_size r
    have t2 := decI_size r.a
    obtain ⟨TT, hTT⟩ : ∃ TT, stuT r = TT := ⟨_, rfl⟩
    rw [hTT] at t1
    have hO2 := Lib.hid (show fmtF l (k + 1) = O ++ (((decI r.a ++ ⟨#[58, 32]⟩) ++ TT) ++ ⟨#[10]⟩) from by rw [fmtF_succ hr, HO.out, stuLine, hTT])
    have t3 := fmtF_size l (k + 1)
    have HT := Lib.hid (fun (w : World) h => studentText_yes day pa le r.a A n c l w hn h HS.out k r (find_at HS.out hr) hr)
    rw [hTT] at HT
    clear hr hst hTT
    rw [hO2.out] at t3
    have hlti : (k : Int) < n := by omega
    subst hAd
    have b_a : -9223372036854775807 ≤ r.a ∧ r.a ≤ 9223372036854775807 := by omega
    go_wp2_with fail
    refine (HT.out _ (((H.out.ext b1.out (Nat.le_refl _)).ext hbl.out (by omega)).ext (ext_alloc (ext_refl _) _) (by omega) |>.more (by simp; omega))).mono ?_
    rintro e w2 ⟨rfl, hb2⟩
    obtain ⟨hc2, hf2⟩ := bcell hb2
    have y0 : wr.heap.size < w2.heap.size := by (have := hb2.size; simp at this; omega)
    have y1 : w.heap.size < w2.heap.size := by omega
    have HB2 := Lib.hid hb2
    clear hb2
    go_wp2_with (go_at_call 87; refine (text_any _ _ (by omega) (by omega)).mono ?_; rintro e w3 ⟨rfl, hb3⟩)
    have b3 := Lib.hid (ext_trans (ext_trans hbl.out (ext_trans (ext_alloc (ext_refl _) _) HB2.out)) hb3)
    clear hb3
    go_wp2
    go_roundw
    case rel => exact ⟨k + 1, by omega, by go_num, b3, _, rfl, (by first | exact t3 | (simp only [ByteArray.append_assoc] at t3 ⊢; exact t3)), Lib.hid (by rw [hO2.out])⟩
    case measure => simp [intOf]; omega
  · obtain rfl : k = n := by omega
    rw [HO.out] at HF
    go_wp2
    (refine wp_region_later (by kernel_rfl) (by kernel_rfl) ?_; (repeat (go_big_quiet_step (first | (go_at_call 87; exact Calls.later_of (text_any _ _ (by omega) (by omega)))))); refine wpQuiet_nil ?_; intro w4 hw1; obtain ⟨⟨wl, hb⟩, hw1'⟩ := hw1; simp only at hw1'; subst hw1')
    have b4 := Lib.hid (ext_trans b1.out (ext_trans hbl.out hb))
    clear hb
    go_wp2
    go_ret2
    exact ⟨(by rw [HF.out]; first | done | rfl), b4.out⟩

set_option maxRecDepth 100000 in
set_option maxHeartbeats 4000000 in
theorem specFormat_any (day pa le : Int) (d p : ByteArray) (z : Int) (A : Option Addr) (n c : Nat) (l : List R5) (w : World) (hn : n ≤ 1048576) (hd : d.size ≤ 2000000) (hp : p.size ≤ 2000000) (h : Reads w w.heap.size 5 A n (rowsV l)) :
 Calls Try.prog 24 #[conV day A n c pa le d p z] w fun e w' => e = .returned (.tuple #[.string (fmtS day l pa le d p z), .bool (conB day l pa le d p z)]) ∧ Below w.heap.size w w' := by
 have HV := Lib.hid (fun (w : World) h => l28Good_any day pa le d p z A n c l w hn hd hp h)
 have H := Lib.hid h
 have HL := Lib.hid (rows_len h)
 unfold fmtS
 clear h
 rcases hb : conB day l pa le d p z with _ | _
 · rw [hb] at HV
   clear hb
   rw [if_neg (by simp)]
   go_enter Try.func24, Try.ntmps24
   go_wp2_with fail
   refine (HV.out _ ((H.out.ext (ext_alloc (ext_refl _) _) (Nat.le_refl _)).more (by simp))).mono ?_
   rintro e w1 ⟨rfl, hb1⟩
   have b1 := Lib.hid (ext_trans (ext_alloc (ext_refl w) _) hb1)
   clear hb1
   go_wp2
   go_ret2
   exact ⟨rfl, b1.out⟩
 rw [hb] at HV
 rw [if_pos rfl]
 have hsl : schB day l pa le = true ∧ logB d p z = true := by simpa [conB] using hb
 have hday := schB_day hsl.1
 have hpl := schB_pa hsl.1
 have hz := logB_count hsl.2
 have hln := schB_len hsl.1
 have hn8 : n ≤ 8 := by rw [← HL.out]; exact hln
 have HS := Lib.hid hsl.1
 clear hb hsl
 have b_day : -9223372036854775807 ≤ day ∧ day ≤ 9223372036854775807 := by omega
 have b_pa : -9223372036854775807 ≤ pa ∧ pa ≤ 9223372036854775807 := by omega
 have b_le : -9223372036854775807 ≤ le ∧ le ≤ 9223372036854775807 := by omega
 have b_z : -9223372036854775807 ≤ z ∧ z ≤ 9223372036854775807 := by omega
 have hF : fmtC day l pa le z = fmtF l n ++ ⟨#[100, 97, 121, 32]⟩ ++ decI day ++ ⟨#[59, 32, 112, 97, 115, 115, 101, 100, 32]⟩ ++ decI pa ++ ⟨#[59, 32, 108, 101, 102, 116, 32]⟩ ++ decI le ++ ⟨#[59, 32, 114, 101, 99, 111, 114, 100, 115, 32]⟩ ++ decI z ++ ⟨#[10]⟩ := by rw [fmtC, HL.out]
 have s1 := decI_size day
 have s2 := decI_size pa
 have s3 := decI_size le
 have s4 := decI_size z
 obtain ⟨FC, hFC⟩ : ∃ FC, fmtC day l pa le z = FC := ⟨_, rfl⟩
 rw [hFC] at hF ⊢
 have HF := Lib.hid hF
 clear hF hFC
 go_enter Try.func24, Try.ntmps24
 go_wp2_with fail
 refine (HV.out _ ((H.out.ext (ext_alloc (ext_refl _) _) (Nat.le_refl _)).more (by simp))).mono ?_
 rintro e w1 ⟨rfl, hb1⟩
 have z0 : w.heap.size < w1.heap.size := by (have := hb1.size; simp at this; omega)
 have b1 := Lib.hid (ext_trans (ext_alloc (ext_refl w) _) hb1)
 have BX := Lib.hid ((Blk.new w #[.int .i64 day, .slice A n c, .int .i64 pa, .int .i64 le, .string d, .string p, .int .i64 z] 28).ext hb1)
 obtain ⟨g0, g1, g2, g3, g4, g5, g6⟩ := BX.out.q7
 obtain ⟨fg0, fg1, fg2, fg3, fg4, fg5, fg6⟩ := BX.out.z7
 clear hb1
 go_wp2
 go_loopw [4, 5] (fun o i wr => ∃ k : Nat, k ≤ n ∧ i = .int .i64 k ∧ Hid (Below w1.heap.size w1 wr) ∧ ∃ O : ByteArray, o = .string O ∧ O.size ≤ k * 140 ∧ Hid (fmtF l k = O)) (fun _ i _ => n - (intOf i).toNat)
 case atStart => exact ⟨0, Nat.zero_le _, rfl, Lib.hid (ext_refl _), ⟨#[]⟩, rfl, Nat.zero_le _, Lib.hid rfl⟩
 case round =>
  clear g0 fg0 g1 fg1 g2 fg2 g3 fg3 g4 fg4 g5 fg5 g6 fg6
  obtain ⟨k, hk, rfl, hbl, O, rfl, hO, HO⟩ := hrel
  have hO3 : O.size ≤ 1200 := by omega
  have x0 : wr.cell? ⟨w.heap.size, 0, none⟩ = some (.int .i64 day) := ext_cell hbl.out (BX.out.cell 0)
  have x1 : wr.cell? ⟨w.heap.size, 1, none⟩ = some (.slice A n c) := ext_cell hbl.out (BX.out.cell 1)
  have x2 : wr.cell? ⟨w.heap.size, 2, none⟩ = some (.int .i64 pa) := ext_cell hbl.out (BX.out.cell 2)
  have x3 : wr.cell? ⟨w.heap.size, 3, none⟩ = some (.int .i64 le) := ext_cell hbl.out (BX.out.cell 3)
  have x4 : wr.cell? ⟨w.heap.size, 4, none⟩ = some (.string d) := ext_cell hbl.out (BX.out.cell 4)
  have x5 : wr.cell? ⟨w.heap.size, 5, none⟩ = some (.string p) := ext_cell hbl.out (BX.out.cell 5)
  have x6 : wr.cell? ⟨w.heap.size, 6, none⟩ = some (.int .i64 z) := ext_cell hbl.out (BX.out.cell 6)
  have zr := hbl.out.size
  have zr0 : w.heap.size < wr.heap.size := by omega
  by_cases hlt : k < n
  · obtain ⟨r, hr⟩ := list_split (l := l) (k := k) (by rw [HL.out]; exact hlt)
    obtain ⟨b, o, hAd, hbb, c0, c1, c2, c3, c4⟩ := rows_at ((H.out.ext b1.out (Nat.le_refl _)).ext hbl.out (by omega)) hr
    have hst := schB_mem HS.out (List.mem_of_getElem? hr)
    obtain ⟨q1, q2, q3, q4, q5⟩ := stu_bounds hst
    have t1 := stuT_size r
    have t2 := decI_size r.a
    obtain ⟨TT, hTT⟩ : ∃ TT, stuT r = TT := ⟨_, rfl⟩
    rw [hTT] at t1
    have hO2 := Lib.hid (show fmtF l (k + 1) = O ++ (((decI r.a ++ ⟨#[58, 32]⟩) ++ TT) ++ ⟨#[10]⟩) from by rw [fmtF_succ hr, HO.out, stuLine, hTT])
    have t3 := fmtF_size l (k + 1)
    have HT := Lib.hid (fun w => l25Text_any r w hst)
    rw [hTT] at HT
    clear hr hst hTT
    rw [hO2.out] at t3
    have hlti : (k : Int) < n := by omega
    subst hAd
    go_wp2
    (refine wp_region_later (by kernel_rfl) (by kernel_rfl) ?_; (repeat (go_big_quiet_step (first | (go_at_call 85; exact Calls.later_of (l1Num_any _ _ (by omega) (by omega))) | (go_at_call 86; exact Calls.later_of (HT.out _))))); refine wpQuiet_nil ?_; intro w3 hw1; obtain ⟨⟨wl, hb⟩, hw1'⟩ := hw1; simp only at hw1'; subst hw1')
    have hb3 := hb
    have b3 := Lib.hid (ext_trans hbl.out (ext_trans (ext_alloc (ext_refl _) _) hb3))
    clear hb3
    go_wp2
    go_roundw
    case rel => exact ⟨k + 1, by omega, by go_num, b3, _, rfl, (by first | exact t3 | (simp only [ByteArray.append_assoc] at t3 ⊢; exact t3)), Lib.hid (by rw [hO2.out]; simp only [ByteArray.append_assoc])⟩
    case measure => simp [intOf]; omega
  · obtain rfl : k = n := by omega
    rw [HO.out] at HF
    go_wp2
    (refine wp_region_later (by kernel_rfl) (by kernel_rfl) ?_; (repeat (go_big_quiet_step (first | (go_at_call 85; exact Calls.later_of (l1Num_any _ _ (by omega) (by omega)))))); refine wpQuiet_nil ?_; intro w4 hw1; obtain ⟨⟨wl, hb⟩, hw1'⟩ := hw1; simp only at hw1'; subst hw1')
    have b4 := Lib.hid (ext_trans b1.out (ext_trans hbl.out hb))
    clear hb
    go_wp2
    go_ret2
    exact ⟨(by rw [HF.out]; first | done | rfl), b4.out⟩

end Go.Proofs.Ytclihlihaigddaa
