/- The law FnScript, walked. -/
import Derived.Test.YtclihlihaigddaaVM13
import Derived.Test.YtclihlihaigddaaVM8
import Derived.Test.YtclihlihaigddaaVM12
import Derived.Test.YtclihlihaigddaaVConF
import Derived.Test.YtclihlihaigddaaVM1
namespace Go.Proofs.Ytclihlihaigddaa
open Go.RowKit
set_option linter.unusedVariables false
set_option linter.unusedSimpArgs false
theorem own_at0 {w : World} {base e n c : Nat} {A : Option Addr} {xs : List Value} {t : Value} (h : w.ownsRow base e 1 (.slice A n c) n xs) (h0 : xs[0]? = some t) (hn : 0 < n) : ∃ g, A = some ⟨g, 0, none⟩ ∧ g < w.heap.size ∧ w.cell? ⟨g, 0, none⟩ = some t := by
 obtain ⟨g, cap, hv, _, hlt⟩ := h.form hn
 injection hv with hv1 _ _
 have := h.cells (g := g) (by rw [hv1]; rfl) 0 t h0
 rw [add_flat, Nat.zero_add] at this
 exact ⟨g, hv1, hlt, this⟩
theorem splitString_any (s : ByteArray) (w : World) (hs : s.size ≤ 4000) :
 Calls Try.prog 42 #[.string s, .string ⟨#[10]⟩] w (RetSliceB w 9 1 (splitL 10 (bl s)).length (strsV (splitL 10 (bl s))) true) := by
 have HSP := Lib.hid (show ∀ w : World, Calls Try.prog 98 #[.string s, .int .u8 10] w (RetSlice w 9 1 (splitL 10 (bl s)).length (strsV (splitL 10 (bl s)))) from fun w => l1Split_any s 10 w (by omega))
 obtain ⟨W, hW⟩ : ∃ W, splitL 10 (bl s) = W := ⟨_, rfl⟩
 rw [hW] at HSP ⊢
 obtain ⟨m, hm⟩ : ∃ m, W.length = m := ⟨_, rfl⟩
 rw [hm] at HSP ⊢
 have hbig : ¬ (4000 : Int) < (s.size : Int) := by omega
 clear hW hm
 go_enter Try.func42, Try.ntmps42
 go_wp2_with fail
 refine (HSP.out _).mono ?_
 rintro e w1 ⟨A, c, rfl, ho, hb⟩
 have HO := Lib.hid ho
 have HB := Lib.hid hb
 clear ho hb
 go_wp2
 go_ret2
 exact ⟨A, c, rfl, HO.out, HB.out⟩
/-- the ways that a script goes -/
theorem sct_case (C : Con) (tx : ByteArray) (htx : tx.size ≤ 400) : ((scO C tx).isSome = false ∧ (scR C tx).length = 0) ∨ ((scO C tx).isSome = true ∧ (splitL 10 (bl tx)).length < 2) ∨
 ((scO C tx).isSome = true ∧ ∃ (x : List UInt8) (rest : List (List UInt8)) (t0 : ByteArray), splitL 10 (bl tx) = x :: rest ∧ 2 ≤ (splitL 10 (bl tx)).length ∧ (str x).size ≤ 400 ∧ (scR C (str x) = [t0] ∧ (scO C (str x)).isSome = true) ∧ (scR C tx)[0]? = some t0) := by
 rcases h : (scO C tx).isSome with _ | _
 · exact .inl ⟨rfl, by rw [sc_none h]; rfl⟩
 · by_cases h2 : (splitL 10 (bl tx)).length < 2
   · exact .inr (.inl ⟨rfl, h2⟩)
   · rcases hx : splitL 10 (bl tx) with _ | ⟨x, rest⟩
     · rw [hx] at h2; exact absurd (by decide) h2
     · obtain ⟨e1, e2, e3⟩ := sc_first h hx
       obtain ⟨_, h4⟩ := splitL_first hx
       rw [bl_size] at h4
       rw [hx] at h2
       exact .inr (.inr ⟨rfl, x, rest, _, rfl, by omega, by rw [← bl_size, bl_str]; omega, ⟨e2, e1⟩, e3⟩)
set_option maxRecDepth 100000 in
set_option maxHeartbeats 8000000 in
theorem law_FnScript (A : Option Addr) (n c : Nat) (w : World) (h : Code w w.heap.size A n) (hn63 : n ≤ maxLen) :
 Calls Try.prog 10 #[.slice A n c] w fun e w' => e = .returned (.bool true) ∧ Below w.heap.size w w' := by
 have HV := Lib.hid (fun w => vBig_any A n c w)
 by_cases hbig : (65536 : Int) < n
 · rw [decide_eq_true hbig] at HV
   go_enter Try.func10, Try.ntmps10
   go_wp2_with (go_at_call 37; refine (HV.out _).mono ?_; rintro e w' ⟨rfl, hb⟩)
   go_ret
   exact ⟨rfl, (by repeat (first | exact ext_refl _ | assumption | refine ext_alloc ?_ _ | refine ext_drew ?_ | refine ext_drewN ?_ _ | refine ext_set ?_ (by simp <;> omega) _ | refine ext_trans ?_ (by assumption)))⟩
 · rw [decide_eq_false hbig] at HV
   have hn : n ≤ 65536 := by omega
   have H := Lib.hid h
   clear h hbig hn63
   go_enter Try.func10, Try.ntmps10
   go_wp2_with fail
   refine (HV.out _).mono ?_
   rintro e w1 ⟨rfl, hb⟩
   have s1 : w.heap.size ≤ w1.heap.size := (by have := hb.size; (try simp at this); omega)
   have b1 := Lib.hid (ext_trans (ext_refl w) hb)
   have t1 : w.heap.size ≤ w1.heap.size := b1.out.size
   clear hb
   go_wp2_with fail
   refine (drawScript_any A n c _ ((H.out.below b1.out).more b1.out.size) hn).mono ?_
   rintro e w2 ⟨D, P, Q, l, As, cs, d, p, z, tx, rfl, hl9, hdp, htx, ho_s, hb⟩
   have s2 : w1.heap.size ≤ w2.heap.size := (by have := hb.size; (try simp at this); omega)
   have b2 := Lib.hid (ext_trans b1.out hb)
   have t2 : w.heap.size ≤ w2.heap.size := b2.out.size
   clear hb
   have oc_s := Lib.hid (own_base (base' := w1.heap.size + 0) ho_s (by simp))
   clear ho_s
   have hN := scR_len ((D, l, P, Q), d, p, z) tx
   have HA := Lib.hid (fun (w : World) (A : Option Addr) (c : Nat) hA h => specScr_any D P Q d p z A l.length c l tx w (by omega) (by omega) (by omega) (by omega) hA h)
   have HB := Lib.hid (fun (w : World) (A : Option Addr) (c : Nat) hA h => implScr_any D P Q d p z A l.length c l tx w (by omega) (by omega) (by omega) (by omega) hA h)
   have HF := Lib.hid (fun (x : ByteArray) (hx : x.size ≤ 400) (w : World) (A : Option Addr) (c : Nat) hA h => implScr_any D P Q d p z A l.length c l x w (by omega) (by omega) (by omega) (by omega) hA h)
   have HFS := Lib.hid (fun (w : World) A c h => specFormat_any D P Q d p z A l.length c l w (by omega) (by omega) (by omega) h)
   have HFI := Lib.hid (fun (w : World) A c h => implFormat_any D P Q d p z A l.length c l w (by omega) (by omega) (by omega) h)
   have HSP := Lib.hid (fun (w : World) => splitString_any tx w (by omega))
   have hc1 := sct_case ((D, l, P, Q), d, p, z) tx htx
   obtain ⟨TF, hTF⟩ : ∃ TF, fmtS D l P Q d p z = TF := ⟨_, rfl⟩
   obtain ⟨okf, hokf⟩ : ∃ okf, conB D l P Q d p z = okf := ⟨_, rfl⟩
   rw [hTF, hokf] at HFS HFI
   obtain ⟨ok, hok⟩ : ∃ ok, (scO ((D, l, P, Q), d, p, z) tx).isSome = ok := ⟨_, rfl⟩
   obtain ⟨L, hL⟩ : ∃ L, scR ((D, l, P, Q), d, p, z) tx = L := ⟨_, rfl⟩
   rw [hok, hL] at HA HB hc1
   rw [hL] at hN
   obtain ⟨W, hW⟩ : ∃ W, splitL 10 (bl tx) = W := ⟨_, rfl⟩
   rw [hW] at HSP hc1
   obtain ⟨m, hm⟩ : ∃ m, W.length = m := ⟨_, rfl⟩
   rw [hm] at HSP hc1
   obtain ⟨N, hNL⟩ : ∃ N, L.length = N := ⟨_, rfl⟩
   rw [hNL] at HA HB hN hc1
   have HNL := Lib.hid hNL
   have HC1 := Lib.hid hc1
   have HM := Lib.hid hm
   clear hTF hokf hok hL hW hm hNL hc1
   have hsl := slOk_own oc_s.out
   go_wp2_with fail
   refine (HB.out _ As cs hsl (Reads.of_own (oc_s.out.alloc _))).mono ?_
   rintro e w3 ⟨Aa, ca, rfl, ho_a, hb⟩
   have s3 : w2.heap.size + 1 ≤ w3.heap.size := (by have := hb.size; (try simp at this); omega)
   have z3_0 : w2.heap.size < w3.heap.size := (by omega)
   have q3_0 : w3.cell? ⟨w2.heap.size, 0, none⟩ = some (.int .i64 D) := ext_cell hb (by simp [go_sem])
   have q3_1 : w3.cell? ⟨w2.heap.size, 1, none⟩ = some (.slice As l.length cs) := ext_cell hb (by simp [go_sem])
   have q3_2 : w3.cell? ⟨w2.heap.size, 2, none⟩ = some (.int .i64 P) := ext_cell hb (by simp [go_sem])
   have q3_3 : w3.cell? ⟨w2.heap.size, 3, none⟩ = some (.int .i64 Q) := ext_cell hb (by simp [go_sem])
   have q3_4 : w3.cell? ⟨w2.heap.size, 4, none⟩ = some (.string d) := ext_cell hb (by simp [go_sem])
   have q3_5 : w3.cell? ⟨w2.heap.size, 5, none⟩ = some (.string p) := ext_cell hb (by simp [go_sem])
   have q3_6 : w3.cell? ⟨w2.heap.size, 6, none⟩ = some (.int .i64 z) := ext_cell hb (by simp [go_sem])
   have b3 := Lib.hid (ext_trans (ext_alloc b2.out _) hb)
   have t3 : w.heap.size ≤ w3.heap.size := b3.out.size
   have o3_s := Lib.hid (own_ext (oc_s.out.alloc _) hb)
   have oc_a := Lib.hid (own_base (base' := w2.heap.size + 1) ho_a (by simp))
   clear ho_a
   clear hb
   go_wp2_with fail
   refine (HA.out _ As cs hsl (Reads.of_own o3_s.out)).mono ?_
   rintro e w4 ⟨Ab, cb, rfl, ho_b, hb⟩
   have s4 : w3.heap.size ≤ w4.heap.size := (by have := hb.size; (try simp at this); omega)
   have z4_0 : w2.heap.size < w4.heap.size := (by omega)
   have q4_0 : w4.cell? ⟨w2.heap.size, 0, none⟩ = some (.int .i64 D) := ext_cell hb q3_0
   have q4_1 : w4.cell? ⟨w2.heap.size, 1, none⟩ = some (.slice As l.length cs) := ext_cell hb q3_1
   have q4_2 : w4.cell? ⟨w2.heap.size, 2, none⟩ = some (.int .i64 P) := ext_cell hb q3_2
   have q4_3 : w4.cell? ⟨w2.heap.size, 3, none⟩ = some (.int .i64 Q) := ext_cell hb q3_3
   have q4_4 : w4.cell? ⟨w2.heap.size, 4, none⟩ = some (.string d) := ext_cell hb q3_4
   have q4_5 : w4.cell? ⟨w2.heap.size, 5, none⟩ = some (.string p) := ext_cell hb q3_5
   have q4_6 : w4.cell? ⟨w2.heap.size, 6, none⟩ = some (.int .i64 z) := ext_cell hb q3_6
   have b4 := Lib.hid (ext_trans b3.out hb)
   have t4 : w.heap.size ≤ w4.heap.size := b4.out.size
   have o4_s := Lib.hid (own_ext o3_s.out hb)
   have o4_a := Lib.hid (own_ext oc_a.out hb)
   clear q3_0 q3_1 q3_2 q3_3 q3_4 q3_5 q3_6
   have oc_b := Lib.hid (own_base (base' := w3.heap.size + 0) ho_b (by simp))
   clear ho_b
   clear hb
   go_wp2_with fail
   go_loopw [9] (fun i wr => ∃ k : Nat, k ≤ N ∧ i = .int .i64 k ∧ Hid (Below w4.heap.size w4 wr)) (fun i _ => N - (intOf i).toNat)
   case atStart => exact ⟨0, Nat.zero_le _, rfl, Lib.hid (ext_refl _)⟩
   case round =>
    obtain ⟨k, hk, rfl, hbl⟩ := hrel
    by_cases hlt : k < N
    · have hoa := own_ext o4_a.out hbl.out
      have hob := own_ext oc_b.out hbl.out
      obtain ⟨x, hx⟩ := list_split (l := L) (k := k) (by rw [HNL.out]; exact hlt)
      obtain ⟨b1, o1, rfl, hb1, a0⟩ := texts_at (Reads.of_own hoa) hx
      obtain ⟨b2, o2, rfl, hb2, e0⟩ := texts_at (Reads.of_own hob) hx
      have hk1 : (k : Int) < (N : Int) := by omega
      have hne := ba_nyes (rfl : x = x)
      clear hx hoa hob
      go_wp2
      (refine wp_region_later (by kernel_rfl) (by kernel_rfl) ?_; (repeat (go_big_quiet_step (fail))); refine wpQuiet_nil ?_; intro w1 hw1; obtain ⟨⟨wl, hbL⟩, hw1'⟩ := hw1; simp only at hw1'; subst hw1'; obtain ⟨hcL, hfL⟩ := bcell hbL)
      have hbl2 := Lib.hid (ext_trans hbl.out hbL)
      clear hcL hfL hbL
      go_wp2
      go_roundw
      case rel => exact ⟨k + 1, by omega, by go_num, hbl2⟩
      case measure => simp [intOf]; omega
    · obtain rfl : N = k := by omega
      obtain ⟨w5, hw5⟩ : ∃ x : World, x = wr := ⟨_, rfl⟩
      subst hw5
      have hb := hbl.out
      have s5 : w4.heap.size ≤ w5.heap.size := (by have := hb.size; (try simp at this); omega)
      have z5_0 : w2.heap.size < w5.heap.size := (by omega)
      have q5_0 : w5.cell? ⟨w2.heap.size, 0, none⟩ = some (.int .i64 D) := ext_cell hb q4_0
      have q5_1 : w5.cell? ⟨w2.heap.size, 1, none⟩ = some (.slice As l.length cs) := ext_cell hb q4_1
      have q5_2 : w5.cell? ⟨w2.heap.size, 2, none⟩ = some (.int .i64 P) := ext_cell hb q4_2
      have q5_3 : w5.cell? ⟨w2.heap.size, 3, none⟩ = some (.int .i64 Q) := ext_cell hb q4_3
      have q5_4 : w5.cell? ⟨w2.heap.size, 4, none⟩ = some (.string d) := ext_cell hb q4_4
      have q5_5 : w5.cell? ⟨w2.heap.size, 5, none⟩ = some (.string p) := ext_cell hb q4_5
      have q5_6 : w5.cell? ⟨w2.heap.size, 6, none⟩ = some (.int .i64 z) := ext_cell hb q4_6
      have b5 := Lib.hid (ext_trans b4.out hb)
      have t5 : w.heap.size ≤ w5.heap.size := b5.out.size
      have o5_s := Lib.hid (own_ext o4_s.out hb)
      have o5_a := Lib.hid (own_ext o4_a.out hb)
      have o5_b := Lib.hid (own_ext oc_b.out hb)
      clear q4_0 q4_1 q4_2 q4_3 q4_4 q4_5 q4_6
      clear hb hbl
      go_wp2_with fail
      refine (HSP.out _).mono ?_
      rintro e w6 ⟨Al, cl, rfl, ho_l, hb⟩
      have s6 : w5.heap.size ≤ w6.heap.size := (by have := hb.size; (try simp at this); omega)
      have z6_0 : w2.heap.size < w6.heap.size := (by omega)
      have q6_0 : w6.cell? ⟨w2.heap.size, 0, none⟩ = some (.int .i64 D) := ext_cell hb q5_0
      have q6_1 : w6.cell? ⟨w2.heap.size, 1, none⟩ = some (.slice As l.length cs) := ext_cell hb q5_1
      have q6_2 : w6.cell? ⟨w2.heap.size, 2, none⟩ = some (.int .i64 P) := ext_cell hb q5_2
      have q6_3 : w6.cell? ⟨w2.heap.size, 3, none⟩ = some (.int .i64 Q) := ext_cell hb q5_3
      have q6_4 : w6.cell? ⟨w2.heap.size, 4, none⟩ = some (.string d) := ext_cell hb q5_4
      have q6_5 : w6.cell? ⟨w2.heap.size, 5, none⟩ = some (.string p) := ext_cell hb q5_5
      have q6_6 : w6.cell? ⟨w2.heap.size, 6, none⟩ = some (.int .i64 z) := ext_cell hb q5_6
      have b6 := Lib.hid (ext_trans b5.out hb)
      have t6 : w.heap.size ≤ w6.heap.size := b6.out.size
      have o6_s := Lib.hid (own_ext o5_s.out hb)
      have o6_a := Lib.hid (own_ext o5_a.out hb)
      have o6_b := Lib.hid (own_ext o5_b.out hb)
      clear q5_0 q5_1 q5_2 q5_3 q5_4 q5_5 q5_6
      have oc_l := Lib.hid (own_base (base' := w5.heap.size + 0) ho_l (by simp))
      clear ho_l
      clear hb
      rcases HC1.out with ⟨rfl, hN0⟩ | ⟨rfl, hm2⟩ | ⟨rfl, x, rest, t0, hWx, hm2, hxs, hlone, hL0⟩
      · subst hN0
        go_wp2
        go_ret
        exact ⟨rfl, b6.out⟩
      · have hm3 : (m : Int) < 2 := by omega
        go_wp2
        go_ret
        exact ⟨rfl, b6.out⟩
      have hm3 : ¬ (m : Int) < 2 := by omega
      have hm4 : (0 : Int) < (m : Int) := by omega
      have hm5 : 0 < m := by omega
      have HF1 := Lib.hid (fun (w : World) (A : Option Addr) (c : Nat) hA h => HF.out (str x) hxs w A c hA h)
      rw [hlone.1, hlone.2] at HF1
      have HF1 := Lib.hid (show ∀ (w : World) (A : Option Addr) (c : Nat), SlOk A l.length c → Reads w w.heap.size 5 A l.length (rowsV l) → Calls Try.prog 33 #[conV D A l.length c P Q d p z, .string (str x)] w (RetSliceB w 9 1 1 (textsV [t0]) true) from fun w A c hA h => HF1.out w A c hA h)
      obtain ⟨gl, hAl, hgl, l0⟩ := own_at0 oc_l.out (t := .string (str x)) (by rw [hWx]; rfl) (by omega)
      subst hAl
      clear hlone hWx hxs
      go_upto_region 16 with fail
      go_cut [12, 13] (fun s12 s13 wx => s13 = .bool true ∧ ∃ (Af : Option Addr) (cf : Nat), s12 = .slice Af 1 cf ∧ wx.ownsRow w6.heap.size 9 1 (.slice Af 1 cf) 1 (textsV [t0]) ∧ Below w6.heap.size w6 wx)
      case first =>
       go_region_held3 (fun w' => w'.cell? ⟨w2.heap.size, 0, none⟩ = some (.int .i64 D) ∧ w'.cell? ⟨w2.heap.size, 1, none⟩ = some (.slice As l.length cs) ∧ w'.cell? ⟨w2.heap.size, 2, none⟩ = some (.int .i64 P) ∧ w'.cell? ⟨w2.heap.size, 3, none⟩ = some (.int .i64 Q) ∧ w'.cell? ⟨w2.heap.size, 4, none⟩ = some (.string d) ∧ w'.cell? ⟨w2.heap.size, 5, none⟩ = some (.string p) ∧ w'.cell? ⟨w2.heap.size, 6, none⟩ = some (.int .i64 z) ∧ w'.cell? ⟨gl, 0, none⟩ = some (.string (str x))) (first | (go_split_ands; ((repeat' refine And.intro ?_ ?_) <;> with_reducible (repeat (first | assumption | refine cell_drew ?_ | refine ext_cell hb ?_))))) (first | (go_at_call 33; refine (HF1.out w6.drew As cs hsl (Reads.of_own (World.ownsRow.drew o6_s.out))).mono ?_; rintro e w' ⟨Af, cf, rfl, hof, hb⟩))
       all_goals (go_wp2_with fail; go_meet; exact ⟨rfl, Af, cf, rfl, hof, ext_trans (ext_drew (ext_refl _)) hb⟩)
      case rest =>
       obtain ⟨rfl, Af, cf, rfl, ho_f, hb⟩ := hcut
       obtain ⟨w7, hw7⟩ : ∃ x : World, x = wc := ⟨_, rfl⟩
       subst hw7
       have s7 : w6.heap.size ≤ w7.heap.size := (by have := hb.size; (try simp at this); omega)
       have z7_0 : w2.heap.size < w7.heap.size := (by omega)
       have q7_0 : w7.cell? ⟨w2.heap.size, 0, none⟩ = some (.int .i64 D) := ext_cell hb q6_0
       have q7_1 : w7.cell? ⟨w2.heap.size, 1, none⟩ = some (.slice As l.length cs) := ext_cell hb q6_1
       have q7_2 : w7.cell? ⟨w2.heap.size, 2, none⟩ = some (.int .i64 P) := ext_cell hb q6_2
       have q7_3 : w7.cell? ⟨w2.heap.size, 3, none⟩ = some (.int .i64 Q) := ext_cell hb q6_3
       have q7_4 : w7.cell? ⟨w2.heap.size, 4, none⟩ = some (.string d) := ext_cell hb q6_4
       have q7_5 : w7.cell? ⟨w2.heap.size, 5, none⟩ = some (.string p) := ext_cell hb q6_5
       have q7_6 : w7.cell? ⟨w2.heap.size, 6, none⟩ = some (.int .i64 z) := ext_cell hb q6_6
       have b7 := Lib.hid (ext_trans b6.out hb)
       have t7 : w.heap.size ≤ w7.heap.size := b7.out.size
       have o7_s := Lib.hid (own_ext o6_s.out hb)
       have o7_a := Lib.hid (own_ext o6_a.out hb)
       have o7_b := Lib.hid (own_ext o6_b.out hb)
       have o7_l := Lib.hid (own_ext oc_l.out hb)
       clear q6_0 q6_1 q6_2 q6_3 q6_4 q6_5 q6_6
       have oc_f := Lib.hid ho_f
       clear ho_f hb
       go_wp2_with fail
       refine (HFI.out _ As cs (Reads.of_own o7_s.out)).mono ?_
       rintro e w8 ⟨rfl, hb⟩
       have s8 : w7.heap.size ≤ w8.heap.size := (by have := hb.size; (try simp at this); omega)
       have z8_0 : w2.heap.size < w8.heap.size := (by omega)
       have q8_0 : w8.cell? ⟨w2.heap.size, 0, none⟩ = some (.int .i64 D) := ext_cell hb q7_0
       have q8_1 : w8.cell? ⟨w2.heap.size, 1, none⟩ = some (.slice As l.length cs) := ext_cell hb q7_1
       have q8_2 : w8.cell? ⟨w2.heap.size, 2, none⟩ = some (.int .i64 P) := ext_cell hb q7_2
       have q8_3 : w8.cell? ⟨w2.heap.size, 3, none⟩ = some (.int .i64 Q) := ext_cell hb q7_3
       have q8_4 : w8.cell? ⟨w2.heap.size, 4, none⟩ = some (.string d) := ext_cell hb q7_4
       have q8_5 : w8.cell? ⟨w2.heap.size, 5, none⟩ = some (.string p) := ext_cell hb q7_5
       have q8_6 : w8.cell? ⟨w2.heap.size, 6, none⟩ = some (.int .i64 z) := ext_cell hb q7_6
       have b8 := Lib.hid (ext_trans b7.out hb)
       have t8 : w.heap.size ≤ w8.heap.size := b8.out.size
       have o8_s := Lib.hid (own_ext o7_s.out hb)
       have o8_a := Lib.hid (own_ext o7_a.out hb)
       have o8_b := Lib.hid (own_ext o7_b.out hb)
       have o8_l := Lib.hid (own_ext o7_l.out hb)
       have o8_f := Lib.hid (own_ext oc_f.out hb)
       clear q7_0 q7_1 q7_2 q7_3 q7_4 q7_5 q7_6
       clear hb
       go_wp2_with fail
       refine (HFS.out _ As cs (Reads.of_own o8_s.out)).mono ?_
       rintro e w9 ⟨rfl, hb⟩
       have s9 : w8.heap.size ≤ w9.heap.size := (by have := hb.size; (try simp at this); omega)
       have z9_0 : w2.heap.size < w9.heap.size := (by omega)
       have q9_0 : w9.cell? ⟨w2.heap.size, 0, none⟩ = some (.int .i64 D) := ext_cell hb q8_0
       have q9_1 : w9.cell? ⟨w2.heap.size, 1, none⟩ = some (.slice As l.length cs) := ext_cell hb q8_1
       have q9_2 : w9.cell? ⟨w2.heap.size, 2, none⟩ = some (.int .i64 P) := ext_cell hb q8_2
       have q9_3 : w9.cell? ⟨w2.heap.size, 3, none⟩ = some (.int .i64 Q) := ext_cell hb q8_3
       have q9_4 : w9.cell? ⟨w2.heap.size, 4, none⟩ = some (.string d) := ext_cell hb q8_4
       have q9_5 : w9.cell? ⟨w2.heap.size, 5, none⟩ = some (.string p) := ext_cell hb q8_5
       have q9_6 : w9.cell? ⟨w2.heap.size, 6, none⟩ = some (.int .i64 z) := ext_cell hb q8_6
       have b9 := Lib.hid (ext_trans b8.out hb)
       have t9 : w.heap.size ≤ w9.heap.size := b9.out.size
       have o9_s := Lib.hid (own_ext o8_s.out hb)
       have o9_a := Lib.hid (own_ext o8_a.out hb)
       have o9_b := Lib.hid (own_ext o8_b.out hb)
       have o9_l := Lib.hid (own_ext o8_l.out hb)
       have o9_f := Lib.hid (own_ext o8_f.out hb)
       clear q8_0 q8_1 q8_2 q8_3 q8_4 q8_5 q8_6
       clear hb
       obtain ⟨gf, hAf, hgf, f0⟩ := own_at0 o9_f.out (t := .string t0) rfl (by decide)
       subst hAf
       have hNp : 0 < N := by rcases N with _ | N; (rw [List.eq_nil_of_length_eq_zero HNL.out] at hL0; cases hL0); omega
       obtain ⟨ga, hAa, hga, a0⟩ := own_at0 o9_a.out (t := .string t0) (by simp [textsV, hL0]) hNp
       subst hAa
       have hN1 : (0 : Int) < (N : Int) := by omega
       have hye := ba_yes (rfl : t0 = t0)
       have hye2 := ba_yes (rfl : TF = TF)
       clear hL0 hNp
       go_wp2
       (refine wp_region_later (by kernel_rfl) (by kernel_rfl) ?_; (repeat (go_big_quiet_step (fail))); refine wpQuiet_nil ?_; intro w1 hw1; obtain ⟨⟨wl, hbL⟩, hw1'⟩ := hw1; simp only at hw1'; subst hw1'; obtain ⟨hcL, hfL⟩ := bcell hbL)
       have hbe := Lib.hid (ext_trans b9.out hbL)
       clear hcL hfL hbL
       go_wp2
       go_ret
       exact ⟨rfl, hbe.out⟩
end Go.Proofs.Ytclihlihaigddaa
