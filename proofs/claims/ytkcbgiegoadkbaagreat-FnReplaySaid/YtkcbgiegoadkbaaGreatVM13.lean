/- What the law of scripts draws. -/
import Derived.Test.YtkcbgiegoadkbaaGreatVCurW
import Derived.Test.YtkcbgiegoadkbaaGreatVRplI
import Derived.Test.YtkcbgiegoadkbaaGreatVRplS
import Derived.Test.YtkcbgiegoadkbaaGreatVM3
import Derived.Test.YtkcbgiegoadkbaaGreatVM1
import Derived.Test.YtkcbgiegoadkbaaGreatVM12
import Derived.Test.YtkcbgiegoadkbaaGreatVM8
namespace Go.Proofs.YtkcbgiegoadkbaaGreat
open Go.RowKit
set_option linter.unusedVariables false
set_option linter.unusedSimpArgs false
set_option maxRecDepth 100000 in
set_option maxHeartbeats 8000000 in
theorem drawScript_any (Ac : Option Addr) (nc cc : Nat) (w : World) (h : Code w w.heap.size Ac nc) (hn : nc ≤ 65536) :
 Calls Tryz.prog 8 #[.slice Ac nc cc] w fun e w' => ∃ (D P Q : Int) (l : List R5) (A : Option Addr) (c : Nat) (d p : ByteArray) (z : Int) (tx : ByteArray), e = .returned (.tuple #[conV D A l.length c P Q d p z, .string tx]) ∧ l.length ≤ 9 ∧ d.size + p.size ≤ 2500 ∧ tx.size ≤ 400 ∧ w'.ownsRow w.heap.size 111 5 (.slice A l.length c) l.length (rowsV l) ∧ Below w.heap.size w w' := by
 have HC := Lib.hid (h.cur1 (by omega) cc (.cells #[.int .i64 0, .slice none 0 0, .int .i64 0, .int .i64 0, .string ⟨#[]⟩, .string ⟨#[]⟩, .int .i64 0] 34))
 clear h
 go_enter Tryz.func8, Tryz.ntmps8
 go_wp2_with fail
 refine (console_any _ 0 _ HC.out (by omega)).mono ?_
 rintro e w1 ⟨D, P, Q, l, A, c, d, p, z, a1, rfl, hl9, hid, hdp, ho, ha1, hc, hg⟩
 have s01 : w.heap.size + 1 < w1.heap.size := hc.lt
 have C1 := Lib.hid hc
 have X1 : Hid (Below w.heap.size w w1) := Lib.hid (Gr.below (ext_alloc (ext_alloc (ext_refl w) (.cells #[.int .i64 0, .slice none 0 0, .int .i64 0, .int .i64 0, .string ⟨#[]⟩, .string ⟨#[]⟩, .int .i64 0] 34)) (.cells #[.slice Ac nc cc, .int .i64 0, .int .u64 0] 51)) hg (by omega))
 have R1 : Hid (Blk w1 w.heap.size 34 #[.int .i64 0, .slice none 0 0, .int .i64 0, .int .i64 0, .string ⟨#[]⟩, .string ⟨#[]⟩, .int .i64 0]) := Lib.hid (((Blk.new w _ _).ext (ext_alloc (ext_refl _) _)).gr hg (by omega))
 have O1 := Lib.hid ho
 have HID := Lib.hid hid
 clear hc hg ho hid HC
 obtain ⟨w2, hw2⟩ : ∃ w2, w2 = w1.alloc (.cells #[.int .i64 D, .slice A l.length c, .int .i64 P, .int .i64 Q, .string d, .string p, .int .i64 z] 34) := ⟨_, rfl⟩
 have e2 : Below w1.heap.size w1 w2 := by rw [hw2]; exact ext_alloc (ext_refl _) _
 have C2 := Lib.hid (C1.out.ext e2)
 have X2 := Lib.hid (ext_trans X1.out e2)
 have R2 := Lib.hid (R1.out.ext e2)
 have S2 : Hid (Blk w2 w1.heap.size 34 #[.int .i64 D, .slice A l.length c, .int .i64 P, .int .i64 Q, .string d, .string p, .int .i64 z]) := Lib.hid (by rw [hw2]; exact Blk.new _ _ _)
 have O2 := Lib.hid (own_ext O1.out e2)
 clear e2 C1 X1 R1 O1
 have sR2 := R2.out.lt
 have sS2 := S2.out.lt
 obtain ⟨s2_0, s2_1, s2_2, s2_3, s2_4, s2_5, s2_6⟩ := S2.out.q7
 obtain ⟨fs2_0, fs2_1, fs2_2, fs2_3, fs2_4, fs2_5, fs2_6⟩ := S2.out.z7
 go_upto_region 3 with fail
 rw [← hw2]
 clear hw2
 go_wp2_with fail
 refine (command_any _ a1 D P Q A l.length c l d p z _ C2.out (by omega) (by omega) O2.out HID.out).mono ?_
 rintro e w3 ⟨tx, a2, rfl, htx, ha2, hc, hg⟩
 have C3 := Lib.hid hc
 have X3 := Lib.hid (Gr.below X2.out hg (by omega))
 have R3 := Lib.hid (R2.out.gr hg (by omega))
 have S3 := Lib.hid (S2.out.gr hg (by omega))
 have O3 := Lib.hid (own_gr O2.out hg (Nat.lt_succ_self _))
 clear hc hg
 clear s2_0 fs2_0 s2_1 fs2_1 s2_2 fs2_2 s2_3 fs2_3 s2_4 fs2_4 s2_5 fs2_5 s2_6 fs2_6
 have sR3 := R3.out.lt
 have sS3 := S3.out.lt
 obtain ⟨s3_0, s3_1, s3_2, s3_3, s3_4, s3_5, s3_6⟩ := S3.out.q7
 obtain ⟨fs3_0, fs3_1, fs3_2, fs3_3, fs3_4, fs3_5, fs3_6⟩ := S3.out.z7
 go_wp2_with fail
 refine (pick_any _ a2 5 _ C3.out (by omega) (by omega) (by omega)).mono ?_
 rintro e w4 ⟨q, a3, rfl, q0, q1, ha3, hc, hg⟩
 obtain ⟨n, rfl⟩ := Int.eq_ofNat_of_zero_le q0
 have C4 := Lib.hid hc
 have X4 := Lib.hid (Gr.below X3.out hg (by omega))
 have R4 := Lib.hid (R3.out.gr hg (by omega))
 have S4 := Lib.hid (S3.out.gr hg (by omega))
 have O4 := Lib.hid (own_gr O3.out hg (Nat.lt_succ_self _))
 clear hc hg
 clear s3_0 fs3_0 s3_1 fs3_1 s3_2 fs3_2 s3_3 fs3_3 s3_4 fs3_4 s3_5 fs3_5 s3_6 fs3_6
 go_wp2_with fail
 go_loopw [6, 7] (fun t i wr => ∃ (m a4 : Nat) (t' : ByteArray), t = .string t' ∧ i = .int .i64 m ∧ m ≤ 4 ∧ t'.size + m * 61 ≤ 304 ∧ a4 + m * 30 ≤ 1200 ∧ Hid (Blk wr w.heap.size 34 #[.int .i64 0, .slice none 0 0, .int .i64 0, .int .i64 0, .string ⟨#[]⟩, .string ⟨#[]⟩, .int .i64 0]) ∧ Hid (Blk wr w1.heap.size 34 #[.int .i64 D, .slice A l.length c, .int .i64 P, .int .i64 Q, .string d, .string p, .int .i64 z]) ∧ Hid (wr.ownsRow ((w.heap.size + 1) + 1) 111 5 (.slice A l.length c) l.length (rowsV l)) ∧ Hid (CurAt wr (w.heap.size + 1) a4) ∧ Hid (Below w.heap.size w wr)) (fun _ i _ => (intOf i).toNat)
 case atStart => exact ⟨n, a3, tx, rfl, rfl, by omega, by omega, by omega, R4, S4, O4, C4, X4⟩
 case round =>
  clear R4 S4 O4 C4 X4
  obtain ⟨m, a4, t', rfl, rfl, hm, ht', ha4, R5, S5, O5, C5, X5⟩ := hrel
  have sR5 := R5.out.lt
  have sS5 := S5.out.lt
  obtain ⟨s5_0, s5_1, s5_2, s5_3, s5_4, s5_5, s5_6⟩ := S5.out.q7
  obtain ⟨fs5_0, fs5_1, fs5_2, fs5_3, fs5_4, fs5_5, fs5_6⟩ := S5.out.z7
  by_cases hm0 : 0 < m
  · have zt : (t' ++ ⟨#[10]⟩).size = t'.size + 1 := by rw [ByteArray.size_append]; rfl
    go_wp2_with fail
    refine (command_any _ a4 D P Q A l.length c l d p z _ C5.out (by omega) (by omega) O5.out HID.out).mono ?_
    rintro e w6 ⟨tn, a5, rfl, htn, ha5, hc, hg⟩
    have C6 := Lib.hid hc
    have X6 := Lib.hid (Gr.below X5.out hg (by omega))
    have R6 := Lib.hid (R5.out.gr hg (by omega))
    have S6 := Lib.hid (S5.out.gr hg (by omega))
    have O6 := Lib.hid (own_gr O5.out hg (Nat.lt_succ_self _))
    clear hc hg
    clear s5_0 fs5_0 s5_1 fs5_1 s5_2 fs5_2 s5_3 fs5_3 s5_4 fs5_4 s5_5 fs5_5 s5_6 fs5_6
    have zu : (t' ++ ⟨#[10]⟩ ++ tn).size = t'.size + 1 + tn.size := by rw [ByteArray.size_append, zt]
    go_wp2
    go_roundw
    case rel => exact ⟨m - 1, a5, _, rfl, by go_num, by omega, by omega, by omega, R6, S6, O6, C6, X6⟩
    case measure => simp [intOf]; omega
  · obtain rfl : m = 0 := by omega
    clear s5_0 fs5_0 s5_1 fs5_1 s5_2 fs5_2 s5_3 fs5_3 s5_4 fs5_4 s5_5 fs5_5 s5_6 fs5_6
    go_wp2_with fail
    refine (one_any _ a4 20 _ C5.out (by omega) (by omega) (by omega)).mono ?_
    rintro e w7 ⟨b, a6, rfl, ha6, hc, hg⟩
    have C7 := Lib.hid hc
    have X7 := Lib.hid (Gr.below X5.out hg (by omega))
    have R7 := Lib.hid (R5.out.gr hg (by omega))
    have S7 := Lib.hid (S5.out.gr hg (by omega))
    have O7 := Lib.hid (own_gr O5.out hg (Nat.lt_succ_self _))
    clear hc hg
    cases b
    · have sR := R7.out.lt
      have sS := S7.out.lt
      obtain ⟨r0, r1, r2, r3, r4, r5, r6⟩ := R7.out.q7
      obtain ⟨fr0, fr1, fr2, fr3, fr4, fr5, fr6⟩ := R7.out.z7
      obtain ⟨s0, s1, s2, s3, s4, s5, s6⟩ := S7.out.q7
      obtain ⟨fs0, fs1, fs2, fs3, fs4, fs5, fs6⟩ := S7.out.z7
      have hneR := Lib.hid (own_nb O7.out R7.out (by decide))
      go_wp2
      refine bodyPost_ret (v := .tuple #[conV D A l.length c P Q d p z, .string t']) (by simp [results, Tryz.results8, go_sem, *]) rfl ⟨D, P, Q, l, A, c, d, p, z, t', rfl, hl9, hdp, by first | omega | decide, ?_, ?_⟩
      · refine own_base (base := (w.heap.size + 1) + 1) ?_ (by omega)
        iterate 7 with_reducible refine own_set_nb ?_ hneR.out _
        exact O7.out
      · exact (by repeat (first | (with_reducible exact X7.out) | (refine ext_set ?_ (Nat.le_refl _) _)))
    · go_wp2_with fail
      refine (pick_any _ a6 2 _ C7.out (by omega) (by omega) (by omega)).mono ?_
      rintro e w8 ⟨y, a7, rfl, y0, y1, ha7, hc, hg⟩
      obtain ⟨k, rfl⟩ := Int.eq_ofNat_of_zero_le y0
      have C8 := Lib.hid hc
      have X8 := Lib.hid (Gr.below X7.out hg (by omega))
      have R8 := Lib.hid (R7.out.gr hg (by omega))
      have S8 := Lib.hid (S7.out.gr hg (by omega))
      have O8 := Lib.hid (own_gr O7.out hg (Nat.lt_succ_self _))
      clear hc hg
      go_wp2_with fail
      go_loopw [6, 8] (fun t i wq => ∃ (m : Nat) (t' : ByteArray), t = .string t' ∧ i = .int .i64 m ∧ m ≤ 30 ∧ t'.size + m ≤ 30 ∧ wq = w8) (fun _ i _ => (intOf i).toNat)
      case atStart => exact ⟨29 + k, ⟨#[]⟩, rfl, by go_num, by omega, by simp [lit_size]; omega, rfl⟩
      case round =>
       obtain ⟨m, t', rfl, rfl, hm, ht', rfl⟩ := hrel
       by_cases hm0 : 0 < m
       · have zt : (t' ++ ⟨#[10]⟩).size = t'.size + 1 := by rw [ByteArray.size_append]; rfl
         go_wp2
         go_roundw
         case rel => exact ⟨m - 1, _, rfl, by go_num, by omega, by omega, by first | rfl | trivial⟩
         case measure => simp [intOf]; omega
       · obtain rfl : m = 0 := by omega
         have sR := R8.out.lt
         have sS := S8.out.lt
         obtain ⟨r0, r1, r2, r3, r4, r5, r6⟩ := R8.out.q7
         obtain ⟨fr0, fr1, fr2, fr3, fr4, fr5, fr6⟩ := R8.out.z7
         obtain ⟨s0, s1, s2, s3, s4, s5, s6⟩ := S8.out.q7
         obtain ⟨fs0, fs1, fs2, fs3, fs4, fs5, fs6⟩ := S8.out.z7
         have hneR := Lib.hid (own_nb O8.out R8.out (by decide))
         go_wp2
         refine bodyPost_ret (v := .tuple #[conV D A l.length c P Q d p z, .string t']) (by simp [results, Tryz.results8, go_sem, *]) rfl ⟨D, P, Q, l, A, c, d, p, z, t', rfl, hl9, hdp, by first | omega | decide, ?_, ?_⟩
         · refine own_base (base := (w.heap.size + 1) + 1) ?_ (by omega)
           iterate 7 with_reducible refine own_set_nb ?_ hneR.out _
           exact O8.out
         · exact (by repeat (first | (with_reducible exact X8.out) | (refine ext_set ?_ (Nat.le_refl _) _)))
end Go.Proofs.YtkcbgiegoadkbaaGreat
namespace Go.Proofs.YtkcbgiegoadkbaaGreat
open Go.RowKit
set_option linter.unusedVariables false
set_option linter.unusedSimpArgs false

theorem implRpl_any (day : Int) (d p : ByteArray) (z : Int) (w : World) (hd : d.size ≤ 2000000) (hp : p.size ≤ 2000000) :
 Calls Tryz.prog 6 #[.int .i64 day, logV d p z] w (RetRpl (rplN day d p z) (rplB day d p z) w) := by
 unfold rplN rplB
 rcases h1 : inB day 0 4000 with _ | _
 · rw [if_neg (fun h => by cases h.1)]
   exact implRpl_bad1 day d p z w hd hp h1
 rcases h2 : logB d p z with _ | _
 · rw [if_neg (fun h => by cases h.2)]
   exact implRpl_bad2 day d p z w hd hp h1 h2
 · rw [if_pos ⟨rfl, rfl⟩]
   exact implRpl_go day d p z w hd hp h1 h2

theorem specRpl_any (day : Int) (d p : ByteArray) (z : Int) (w : World) (hd : d.size ≤ 2000000) (hp : p.size ≤ 2000000) :
 Calls Tryz.prog 7 #[.int .i64 day, logV d p z] w (RetRpl (rplN day d p z) (rplB day d p z) w) := by
 unfold rplN rplB
 rcases h1 : inB day 0 4000 with _ | _
 · rw [if_neg (fun h => by cases h.1)]
   exact specRpl_bad1 day d p z w hd hp h1
 rcases h2 : logB d p z with _ | _
 · rw [if_neg (fun h => by cases h.2)]
   exact specRpl_bad2 day d p z w hd hp h1 h2
 · rw [if_pos ⟨rfl, rfl⟩]
   exact specRpl_go day d p z w hd hp h1 h2
end Go.Proofs.YtkcbgiegoadkbaaGreat
namespace Go.Proofs.YtkcbgiegoadkbaaGreat
open Go.RowKit
set_option linter.unusedVariables false
set_option linter.unusedSimpArgs false
theorem own_at0 {w : World} {base e n c : Nat} {A : Option Addr} {xs : List Value} {t : Value} (h : w.ownsRow base e 1 (.slice A n c) n xs) (h0 : xs[0]? = some t) (hn : 0 < n) : ∃ g, A = some ⟨g, 0, none⟩ ∧ g < w.heap.size ∧ w.cell? ⟨g, 0, none⟩ = some t := by
 obtain ⟨g, cap, hv, _, hlt⟩ := h.form hn
 injection hv with hv1 _ _
 have := h.cells (g := g) (by rw [hv1]; rfl) 0 t h0
 rw [add_flat, Nat.zero_add] at this
 exact ⟨g, hv1, hlt, this⟩
theorem splitString_any (s : ByteArray) (w : World) (hs : s.size ≤ 4000) :
 Calls Tryz.prog 12 #[.string s, .string ⟨#[10]⟩] w (RetSliceB w 9 1 (splitL 10 (bl s)).length (strsV (splitL 10 (bl s))) true) := by
 have HSP := Lib.hid (show ∀ w : World, Calls Tryz.prog 30 #[.string s, .int .u8 10] w (RetSlice w 9 1 (splitL 10 (bl s)).length (strsV (splitL 10 (bl s)))) from fun w => l1Split_any s 10 w (by omega))
 obtain ⟨W, hW⟩ : ∃ W, splitL 10 (bl s) = W := ⟨_, rfl⟩
 rw [hW] at HSP ⊢
 obtain ⟨m, hm⟩ : ∃ m, W.length = m := ⟨_, rfl⟩
 rw [hm] at HSP ⊢
 have hbig : ¬ (4000 : Int) < (s.size : Int) := by omega
 clear hW hm
 go_enter Tryz.func12, Tryz.ntmps12
 go_wp2_with fail
 refine (HSP.out _).mono ?_
 rintro e w1 ⟨A, c, rfl, ho, hb⟩
 have HO := Lib.hid ho
 have HB := Lib.hid hb
 clear ho hb
 go_wp2
 go_ret2
 exact ⟨A, c, rfl, HO.out, HB.out⟩
/-- the ways that a script goes -/
theorem sct_case (C : Con) (tx : ByteArray) (htx : tx.size ≤ 400) : ((scO C tx).isSome = false ∧ (scR C tx).length = 0) ∨ ((scO C tx).isSome = true ∧ (splitL 10 (bl tx)).length < 2) ∨
 ((scO C tx).isSome = true ∧ ∃ (x : List UInt8) (rest : List (List UInt8)) (t0 : ByteArray), splitL 10 (bl tx) = x :: rest ∧ 2 ≤ (splitL 10 (bl tx)).length ∧ (str x).size ≤ 400 ∧ (scR C (str x) = [t0] ∧ (scO C (str x)).isSome = true) ∧ (scR C tx)[0]? = some t0) := by
 rcases h : (scO C tx).isSome with _ | _
 · exact .inl ⟨rfl, by rw [sc_none h]; rfl⟩
 · by_cases h2 : (splitL 10 (bl tx)).length < 2
   · exact .inr (.inl ⟨rfl, h2⟩)
   · rcases hx : splitL 10 (bl tx) with _ | ⟨x, rest⟩
     · rw [hx] at h2; exact absurd (by decide) h2
     · obtain ⟨e1, e2, e3⟩ := sc_first h hx
       obtain ⟨_, h4⟩ := splitL_first hx
       rw [bl_size] at h4
       rw [hx] at h2
       exact .inr (.inr ⟨rfl, x, rest, _, rfl, by omega, by rw [← bl_size, bl_str]; omega, ⟨e2, e1⟩, e3⟩)
end Go.Proofs.YtkcbgiegoadkbaaGreat
