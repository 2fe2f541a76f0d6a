/- The law FnCrashRecovery, walked. -/
import Derived.Test.YtdielldikdmjpaaLgU
import Derived.Test.YtdielldikdmjpaaLgC3
import Derived.Test.YtdielldikdmjpaaDrawO
import Derived.Test.YtdielldikdmjpaaLgM
import Derived.Test.YtdielldikdmjpaaLgQ
namespace Go.Proofs.Ytdielldikdmjpaa
open Go.RowKit
set_option linter.unusedVariables false
set_option linter.unusedSimpArgs false
/-- what a crash leaves of a valid log, read again -/
structure Left (d p : ByteArray) (z : Int) (S D : ByteArray) (E N M : Nat) (L1 L2 : List CR) : Prop where
  e1 : E ≤ S.size
  e2 : d.size ≤ E
  nm : N ≤ M
  m60 : M ≤ 60
  sz : S.size ≤ 24300
  cut : S.extract 0 E = D
  l1 : L1.length = N
  pre : ∃ m, L2 = L1 ++ m
  rcv : ∀ w : World, Calls Try.prog 21 #[.string S] w fun e w' => e = .returned (.tuple #[logV D ⟨#[]⟩ N, .int .i64 E, .bool true]) ∧ Below w.heap.size w w'
  all : ∀ w : World, Calls Try.prog 34 #[logV D ⟨#[]⟩ N] w (RetSliceB w 26 2 N (recsV L1) true)
  old : ∀ w : World, Calls Try.prog 33 #[logV d p z] w (RetSliceB w 26 2 M (recsV L2) true)
  val : ∀ w : World, Calls Try.prog 26 #[logV D ⟨#[]⟩ N] w fun e w' => e = .returned (.bool true) ∧ Below w.heap.size w w'
theorem left_of {d p : ByteArray} {z : Int} (hl : logB d p z = true) {K : Nat} (hK : K ≤ p.size) (tn : Bool) : ∃ (D : ByteArray) (E N M : Nat) (L1 L2 : List CR), Left d p z (crashT d p K tn) D E N M L1 L2 := by
  obtain ⟨⟨m, hm⟩, h2, h3⟩ := crash_facts hl hK tn
  have hsz := logB_size hl
  generalize crashT d p K tn = S at *
  have hE := recE_le S
  have hval := rcv_valid (t := S) (by omega)
  have e : ∀ s : ByteArray, s ++ ⟨#[]⟩ = s := fun s => by apply bl_inj; rw [bl_append]; simp [bl]
  have eD : rcvD S = S.extract 0 (recE S) := if_pos (by omega)
  have eN : rcvN S = (recL S).length := if_pos (by omega)
  have eE : rcvE S = recE S := if_pos (by omega)
  have zD : (S.extract 0 (recE S)).size ≤ 24300 := by rw [extract_size _ _ _ hE]; omega
  rw [eD, eN] at hval
  refine ⟨S.extract 0 (recE S), recE S, (recL S).length, (recL (d ++ p)).length, recL S, recL (d ++ p), ⟨hE, h2, by rw [hm, List.length_append]; omega, recL_len _, h3, rfl, rfl, ⟨m, hm⟩, fun w => ?_, fun w => ?_, fun w => ?_, fun w => ?_⟩⟩
  · have := implRecover_any S w (by omega)
    rw [eD, eN, eE, decide_eq_true (by omega)] at this
    exact this
  · have := implRecords_any (S.extract 0 (recE S)) ⟨#[]⟩ ((recL S).length : Nat) w (by omega) (by simp [lit_size])
    rw [hval.1, show lrL (S.extract 0 (recE S)) ⟨#[]⟩ ((recL S).length : Nat) = recL S from by rw [lrL, hval.1, if_pos rfl, e, (rec_fix S).1]] at this
    exact this
  · have := specRecords_any d p z w (by omega) (by omega)
    rw [hl, show lrL d p z = recL (d ++ p) from by rw [lrL, hl, if_pos rfl]] at this
    exact this
  · have := isValidLog_any (S.extract 0 (recE S)) ⟨#[]⟩ ((recL S).length : Nat) w (by omega) (by simp [lit_size])
    rw [hval.1] at this
    exact this
theorem cr_case (d p : ByteArray) (z k : Int) (tn : Bool) (hdp : d.size + p.size ≤ 5100) (hz0 : 0 ≤ z) (hz1 : z ≤ 60) : ∃ (S : ByteArray) (ok : Bool),
    Hid (∀ w : World, Calls Try.prog 28 #[logV d p z, .int .i64 k, .bool tn] w fun e w' => e = .returned (.tuple #[.string S, .bool ok]) ∧ Below w.heap.size w w') ∧
    Hid (∀ w : World, Calls Try.prog 27 #[logV d p z, .int .i64 k, .bool tn] w fun e w' => e = .returned (.tuple #[.string S, .bool ok]) ∧ Below w.heap.size w w') ∧
    ((ok = false ∧ S.toList = []) ∨ (ok = true ∧ ∃ (D : ByteArray) (E N M : Nat) (L1 L2 : List CR), Hid (Left d p z S D E N M L1 L2))) := by
  refine ⟨crashB d p z k tn, crashOk d p z k, Lib.hid fun w => implCrash_any d p z k tn w (by omega) (by omega), Lib.hid fun w => specCrash_any d p z k tn w (by omega) (by omega), ?_⟩
  rcases ho : crashOk d p z k with _ | _
  · exact .inl ⟨rfl, by rw [crashB, ho, if_neg (by simp)]; exact (toList_nil _).2 rfl⟩
  · right
    have ho' := ho
    simp only [crashOk, Bool.and_eq_true, decide_eq_true_eq] at ho'
    obtain ⟨hl, h0, h1⟩ := ho'
    obtain ⟨D, E, N, M, L1, L2, h⟩ := left_of hl (K := k.toNat) (by omega) tn
    rw [crashB, ho, if_pos rfl]
    exact ⟨rfl, D, E, N, M, L1, L2, Lib.hid h⟩
set_option maxHeartbeats 8000000 in
theorem law_FnCrashRecovery (A : Option Addr) (n c : Nat) (w : World) (h : Code w w.heap.size A n) (hn63 : n ≤ maxLen) :
    Calls Try.prog 13 #[.slice A n c] w fun e w' => e = .returned (.bool true) ∧ Below w.heap.size w w' := by
  have HV := Lib.hid (fun w => vBig_any A n c w)
  by_cases hbig : (65536 : Int) < n
  · rw [decide_eq_true hbig] at HV
    go_enter Try.func13, Try.ntmps13
    go_wp2_with (go_at_call 38; refine (HV.out _).mono ?_; rintro e w' ⟨rfl, hb⟩)
    go_ret
    exact ⟨rfl, (by repeat (first | exact ext_refl _ | assumption | refine ext_alloc ?_ _ | refine ext_drew ?_ | refine ext_drewN ?_ _ | refine ext_set ?_ (by simp <;> omega) _ | refine ext_trans ?_ (by assumption)))⟩
  · rw [decide_eq_false hbig] at HV
    have hn : n ≤ 65536 := by omega
    have H := Lib.hid h
    clear h hbig hn63
    go_enter Try.func13, Try.ntmps13
    go_wp2_with fail
    refine (HV.out _).mono ?_
    rintro e w1 ⟨rfl, hb⟩
    have s1 : w.heap.size ≤ w1.heap.size := (by have := hb.size; (try simp at this); omega)
    have b1 := Lib.hid (ext_trans (ext_refl w) hb)
    have t1 : w.heap.size ≤ w1.heap.size := b1.out.size
    clear hb
    go_wp2_with fail
    refine (drawCrash_any A n c _ ((H.out.below b1.out).more b1.out.size) hn).mono ?_
    rintro e w2 ⟨d, p, z, k, tn, rfl, hdp, hz0, hz1, hk0, hk1, hb⟩
    have s2 : w1.heap.size ≤ w2.heap.size := (by have := hb.size; (try simp at this); omega)
    have b2 := Lib.hid (ext_trans b1.out hb)
    have t2 : w.heap.size ≤ w2.heap.size := b2.out.size
    clear hb
    obtain ⟨S, ok, HC1, HC2, hcase⟩ := cr_case d p z k tn hdp hz0 hz1
    go_wp2_with fail
    refine (HC1.out _).mono ?_
    rintro e w3 ⟨rfl, hb⟩
    have s3 : w2.heap.size + 1 ≤ w3.heap.size := (by have := hb.size; (try simp at this); omega)
    have z3_0 : w2.heap.size < w3.heap.size := (by omega)
    have q3_0 : w3.cell? ⟨w2.heap.size, 0, none⟩ = some (.string d) := ext_cell hb (by simp [go_sem])
    have q3_1 : w3.cell? ⟨w2.heap.size, 1, none⟩ = some (.string p) := ext_cell hb (by simp [go_sem])
    have q3_2 : w3.cell? ⟨w2.heap.size, 2, none⟩ = some (.int .i64 z) := ext_cell hb (by simp [go_sem])
    have b3 := Lib.hid (ext_trans (ext_alloc b2.out _) hb)
    have t3 : w.heap.size ≤ w3.heap.size := b3.out.size
    clear hb
    go_wp2_with fail
    refine (HC2.out _).mono ?_
    rintro e w4 ⟨rfl, hb⟩
    have s4 : w3.heap.size ≤ w4.heap.size := (by have := hb.size; (try simp at this); omega)
    have z4_0 : w2.heap.size < w4.heap.size := (by omega)
    have q4_0 : w4.cell? ⟨w2.heap.size, 0, none⟩ = some (.string d) := ext_cell hb q3_0
    have q4_1 : w4.cell? ⟨w2.heap.size, 1, none⟩ = some (.string p) := ext_cell hb q3_1
    have q4_2 : w4.cell? ⟨w2.heap.size, 2, none⟩ = some (.int .i64 z) := ext_cell hb q3_2
    have b4 := Lib.hid (ext_trans b3.out hb)
    have t4 : w.heap.size ≤ w4.heap.size := b4.out.size
    clear q3_0 q3_1 q3_2
    clear hb
    rcases hcase with ⟨rfl, hS⟩ | ⟨rfl, D, E, N, M, L1, L2, HG⟩
    · go_wp2
      go_ret
      exact ⟨rfl, b4.out⟩
    have hE := HG.out.e1
    have hdE := HG.out.e2
    have hNM := HG.out.nm
    have hM := HG.out.m60
    have hS := HG.out.sz
    have hcut := HG.out.cut
    go_wp2_with fail
    refine (HG.out.rcv _).mono ?_
    rintro e w5 ⟨rfl, hb⟩
    have s5 : w4.heap.size ≤ w5.heap.size := (by have := hb.size; (try simp at this); omega)
    have z5_0 : w2.heap.size < w5.heap.size := (by omega)
    have q5_0 : w5.cell? ⟨w2.heap.size, 0, none⟩ = some (.string d) := ext_cell hb q4_0
    have q5_1 : w5.cell? ⟨w2.heap.size, 1, none⟩ = some (.string p) := ext_cell hb q4_1
    have q5_2 : w5.cell? ⟨w2.heap.size, 2, none⟩ = some (.int .i64 z) := ext_cell hb q4_2
    have b5 := Lib.hid (ext_trans b4.out hb)
    have t5 : w.heap.size ≤ w5.heap.size := b5.out.size
    clear q4_0 q4_1 q4_2
    clear hb
    go_wp2_with fail
    refine (HG.out.all _).mono ?_
    rintro e w6 ⟨Aa, ca, rfl, ho_a, hb⟩
    have s6 : w5.heap.size + 1 ≤ w6.heap.size := (by have := hb.size; (try simp at this); omega)
    have z6_0 : w2.heap.size < w6.heap.size := (by omega)
    have z6_1 : w5.heap.size < w6.heap.size := (by omega)
    have q6_0 : w6.cell? ⟨w2.heap.size, 0, none⟩ = some (.string d) := ext_cell hb (cell_old q5_0 _)
    have q6_1 : w6.cell? ⟨w2.heap.size, 1, none⟩ = some (.string p) := ext_cell hb (cell_old q5_1 _)
    have q6_2 : w6.cell? ⟨w2.heap.size, 2, none⟩ = some (.int .i64 z) := ext_cell hb (cell_old q5_2 _)
    have q6_3 : w6.cell? ⟨w5.heap.size, 0, none⟩ = some (.string D) := ext_cell hb (by simp [go_sem])
    have q6_4 : w6.cell? ⟨w5.heap.size, 1, none⟩ = some (.string ⟨#[]⟩) := ext_cell hb (by simp [go_sem])
    have q6_5 : w6.cell? ⟨w5.heap.size, 2, none⟩ = some (.int .i64 (N : Int)) := ext_cell hb (by simp [go_sem])
    have b6 := Lib.hid (ext_trans (ext_alloc b5.out _) hb)
    have t6 : w.heap.size ≤ w6.heap.size := b6.out.size
    clear q5_0 q5_1 q5_2
    have oc_a := Lib.hid (own_base (base' := w5.heap.size + 1) ho_a (by simp))
    clear ho_a
    clear hb
    go_wp2_with fail
    refine (HG.out.old _).mono ?_
    rintro e w7 ⟨Ao, co, rfl, ho_o, hb⟩
    have s7 : w6.heap.size ≤ w7.heap.size := (by have := hb.size; (try simp at this); omega)
    have z7_0 : w2.heap.size < w7.heap.size := (by omega)
    have z7_1 : w5.heap.size < w7.heap.size := (by omega)
    have q7_0 : w7.cell? ⟨w2.heap.size, 0, none⟩ = some (.string d) := ext_cell hb q6_0
    have q7_1 : w7.cell? ⟨w2.heap.size, 1, none⟩ = some (.string p) := ext_cell hb q6_1
    have q7_2 : w7.cell? ⟨w2.heap.size, 2, none⟩ = some (.int .i64 z) := ext_cell hb q6_2
    have q7_3 : w7.cell? ⟨w5.heap.size, 0, none⟩ = some (.string D) := ext_cell hb q6_3
    have q7_4 : w7.cell? ⟨w5.heap.size, 1, none⟩ = some (.string ⟨#[]⟩) := ext_cell hb q6_4
    have q7_5 : w7.cell? ⟨w5.heap.size, 2, none⟩ = some (.int .i64 (N : Int)) := ext_cell hb q6_5
    have b7 := Lib.hid (ext_trans b6.out hb)
    have t7 : w.heap.size ≤ w7.heap.size := b7.out.size
    have o7_a := Lib.hid (own_ext oc_a.out hb)
    clear q6_0 q6_1 q6_2 q6_3 q6_4 q6_5
    have oc_o := Lib.hid (own_base (base' := w6.heap.size + 0) ho_o (by simp))
    clear ho_o
    clear hb
    go_wp2_with fail
    go_loopw [17] (fun i wr => ∃ k : Nat, k ≤ N ∧ i = .int .i64 k ∧ Hid (Below w7.heap.size w7 wr)) (fun i _ => N - (intOf i).toNat)
    case atStart => exact ⟨0, Nat.zero_le _, rfl, Lib.hid (ext_refl _)⟩
    case round =>
      obtain ⟨k, hk, rfl, hbl⟩ := hrel
      have hoa := own_ext o7_a.out hbl.out
      have hoo := own_ext oc_o.out hbl.out
      have hl1 := HG.out.l1
      obtain ⟨mm, hl2⟩ := HG.out.pre
      by_cases hlt : k < N
      · obtain ⟨x, hx⟩ := list_split (l := L1) (k := k) (by omega)
        have hx2 : L2[k]? = some x := by rw [hl2, List.getElem?_append_left (by omega)]; exact hx
        obtain ⟨b, o, rfl, hb, a0, a1⟩ := recs_at (Reads.of_own hoa) hx
        obtain ⟨b', o', rfl, hb', e0, e1⟩ := recs_at (Reads.of_own hoo) hx2
        have hk1 : (k : Int) < (N : Int) := by omega
        have hk2 : (k : Int) < (M : Int) := by omega
        clear hx hx2 hoa hoo hl1 hl2
        go_wp2
        (refine wp_region_later (by kernel_rfl) (by kernel_rfl) ?_; (repeat (go_big_quiet_step (fail))); refine wpQuiet_nil ?_; intro w1 hw1; obtain ⟨⟨wl, hbL⟩, hw1'⟩ := hw1; simp only at hw1'; subst hw1'; obtain ⟨hcL, hfL⟩ := bcell hbL)
        have hbl2 := Lib.hid (ext_trans hbl.out hbL)
        clear hcL hfL hbL
        go_wp2
        go_roundw
        case rel => exact ⟨k + 1, by omega, by go_num, hbl2⟩
        case measure => simp [intOf]; omega
      · obtain rfl : k = N := by omega
        have v0 : wr.cell? ⟨w2.heap.size, 0, none⟩ = some (.string d) := ext_cell hbl.out q7_0
        have v1 : wr.cell? ⟨w2.heap.size, 1, none⟩ = some (.string p) := ext_cell hbl.out q7_1
        have v2 : wr.cell? ⟨w2.heap.size, 2, none⟩ = some (.int .i64 z) := ext_cell hbl.out q7_2
        have v3 : wr.cell? ⟨w5.heap.size, 0, none⟩ = some (.string D) := ext_cell hbl.out q7_3
        have v4 : wr.cell? ⟨w5.heap.size, 1, none⟩ = some (.string ⟨#[]⟩) := ext_cell hbl.out q7_4
        have v5 : wr.cell? ⟨w5.heap.size, 2, none⟩ = some (.int .i64 (k : Int)) := ext_cell hbl.out q7_5
        have hss : w7.heap.size ≤ wr.heap.size := hbl.out.size
        have y0 : w2.heap.size < wr.heap.size := by omega
        have y1 : w5.heap.size < wr.heap.size := by omega
        have hend := Lib.hid (ext_trans b7.out hbl.out)
        have hE1 : (0 : Int) ≤ E := by omega
        have hE2 : (E : Int) ≤ S.size := by omega
        clear hoa hoo hl1 hl2 q7_0 q7_1 q7_2 q7_3 q7_4 q7_5
        go_wp2
        (refine wp_region_later (by kernel_rfl) (by kernel_rfl) ?_; (repeat (go_big_quiet_step (first | (go_at_call 26; exact Calls.later_of (HG.out.val _))))); refine wpQuiet_nil ?_; intro w1 hw1; obtain ⟨⟨wl, hbL⟩, hw1'⟩ := hw1; simp only at hw1'; subst hw1'; obtain ⟨hcL, hfL⟩ := bcell hbL)
        have hend2 := Lib.hid (ext_trans hend.out hbL)
        clear hcL hfL
        go_wp2
        go_ret
        exact ⟨rfl, hend2.out⟩
end Go.Proofs.Ytdielldikdmjpaa
