
/- The law FnHonors, walked. -/
import Derived.Deep.CutBlock
import Derived.Test.YtkgeiemelhkkcaaTrmH
import Derived.Test.YtkgeiemelhkkcaaTrmP
namespace Go.Proofs.Ytkgeiemelhkkcaa
open Go.RowKit
set_option linter.unusedVariables false
set_option linter.unusedSimpArgs false
set_option maxRecDepth 100000 in
set_option maxHeartbeats 8000000 in
theorem law_FnHonors (A : Option Addr) (n c : Nat) (w : World) (h : Code w w.heap.size A n) (hn63 : n ≤ maxLen) :
    Calls Try.prog 13 #[.slice A n c] w fun e w' => e = .returned (.bool true) ∧ Below w.heap.size w w' := by
  have HV := Lib.hid (fun w => rBig_any A n c w)
  by_cases hbig : (65536 : Int) < n
  · rw [decide_eq_true hbig] at HV
    go_enter Try.func13, Try.ntmps13
    go_wp2_with (go_at_call 44; refine (HV.out _).mono ?_; rintro e w' ⟨rfl, hb⟩)
    go_ret
    exact ⟨rfl, hb⟩
  · rw [decide_eq_false hbig] at HV
    have hn : n ≤ 65536 := by omega
    have H := Lib.hid h
    clear h hbig hn63
    go_enter Try.func13, Try.ntmps13
    go_wp2_with fail
    refine (HV.out _).mono ?_
    rintro e w1 ⟨rfl, hb⟩
    have s1 : w.heap.size ≤ w1.heap.size := (by have := hb.size; (try simp at this); omega)
    have b1 := Lib.hid (ext_trans (ext_refl w) hb)
    have t1 : w.heap.size ≤ w1.heap.size := b1.out.size
    clear hb
    go_wp2_with fail
    refine (drawBestTerm_any A n c _ ((H.out.below b1.out).more b1.out.size) hn).mono ?_
    rintro e w2 ⟨l, As, cs, rfl, hl9, ho_s, hb⟩
    have s2 : w1.heap.size ≤ w2.heap.size := (by have := hb.size; (try simp at this); omega)
    have b2 := Lib.hid (ext_trans b1.out hb)
    have t2 : w.heap.size ≤ w2.heap.size := b2.out.size
    clear hb
    have oc_s := Lib.hid (own_base (base' := w1.heap.size + 0) ho_s (by simp))
    clear ho_s
    have HB1 := Lib.hid (fun (w : World) (A : Option Addr) (c : Nat) h => implBestTerm_any A l.length c l w (by omega) h)
    have HB2 := Lib.hid (fun (w : World) (A : Option Addr) (c : Nat) h => specBestTerm_any A l.length c l w (by omega) h)
    have hlaw := fun (hok : bestOk l = true) => best_law hok
    have hbd := fun (hok : bestOk l = true) (k : Nat) (r : R5) (hr : l[k]? = some r) => row_bounds (are_all (best_are hok) hr)
    obtain ⟨T, hT⟩ : ∃ T, bestT l = T := ⟨_, rfl⟩
    obtain ⟨ok, hok⟩ : ∃ ok, bestOk l = ok := ⟨_, rfl⟩
    rw [hT, hok] at HB1 HB2 hlaw
    rw [hok] at hbd
    have HLAW := Lib.hid hlaw
    have HBD := Lib.hid hbd
    have hkk : (ok != ok) = false := by cases ok <;> rfl
    clear hlaw hbd hT hok
    go_wp2_with fail
    refine (HB1.out _ As cs (Reads.of_own oc_s.out)).mono ?_
    rintro e w3 ⟨rfl, hb⟩
    have s3 : w2.heap.size ≤ w3.heap.size := (by have := hb.size; (try simp at this); omega)
    have b3 := Lib.hid (ext_trans b2.out hb)
    have t3 : w.heap.size ≤ w3.heap.size := b3.out.size
    have o3_s := Lib.hid (own_ext oc_s.out hb)
    clear hb
    go_wp2_with fail
    refine (HB2.out _ As cs (Reads.of_own o3_s.out)).mono ?_
    rintro e w4 ⟨rfl, hb⟩
    have s4 : w3.heap.size ≤ w4.heap.size := (by have := hb.size; (try simp at this); omega)
    have b4 := Lib.hid (ext_trans b3.out hb)
    have t4 : w.heap.size ≤ w4.heap.size := b4.out.size
    have o4_s := Lib.hid (own_ext o3_s.out hb)
    clear hb
    go_upto_block 0 with fail
    go_cut [8] (fun s8 wx => Below w4.heap.size w4 wx)
    case first => as_aux_lemma =>
      go_wp2_with fail
      go_loopw [8] (fun i wr => ∃ k : Nat, k ≤ l.length ∧ i = .int .i64 k ∧ Hid (Below w4.heap.size w4 wr)) (fun i _ => l.length - (intOf i).toNat)
      case atStart => exact ⟨0, Nat.zero_le _, rfl, Lib.hid (ext_refl _)⟩
      case round =>
        obtain ⟨k, hk, rfl, hbl⟩ := hrel
        by_cases hlt : k < l.length
        · have hk1 : (k : Int) < (l.length : Int) := by omega
          have hk0 : (0 : Int) ≤ (k : Int) := by omega
          cases hoo : ok
          · subst hoo
            go_wp2
            go_meet
            exact hbl.out
          · subst hoo
            obtain ⟨x, hx⟩ := list_split (l := l) (k := k) (hlt)
            go_wp2_with fail
            go_loopw [9] (fun i wr => ∃ k2 : Nat, k2 ≤ l.length ∧ i = .int .i64 k2 ∧ Hid (Below w4.heap.size w4 wr)) (fun i _ => l.length - (intOf i).toNat)
            case atStart => exact ⟨0, Nat.zero_le _, rfl, hbl⟩
            case round =>
              obtain ⟨k2, hk2, rfl, hbr⟩ := hrel
              by_cases hlt2 : k2 < l.length
              · obtain ⟨y, hy⟩ := list_split (l := l) (k := k2) (hlt2)
                have hos := own_ext o4_s.out hbr.out
                obtain ⟨b, o, hA, hb, c0, c1, c2, c3, c4⟩ := rows_at (Reads.of_own hos) hx
                obtain ⟨b', o', hA', hb', d0, d1, d2, d3, d4⟩ := rows_at (Reads.of_own hos) hy
                rw [hA] at hA'
                injection hA' with hA'
                injection hA' with hA1 hA2
                subst hA1 hA2 hA
                have hj1 : (k2 : Int) < (l.length : Int) := by omega
                have hj0 : (0 : Int) ≤ (k2 : Int) := by omega
                obtain ⟨x1, x2, x3, x4, x5⟩ := HBD.out (by first | rfl | trivial) k x hx
                obtain ⟨y1, y2, y3, y4, y5⟩ := HBD.out (by first | rfl | trivial) k2 y hy
                have hcmp := HLAW.out (by first | rfl | trivial) k k2 x y hx hy
                have p1 : 0 ≤ y.d * x.c ∧ y.d * x.c ≤ 998001 := mul_bounds (by omega) (by omega) (by omega) (by omega)
                have p2 : 0 ≤ x.d * y.c ∧ x.d * y.c ≤ 998001 := mul_bounds (by omega) (by omega) (by omega) (by omega)
                obtain ⟨p1, p1'⟩ := p1
                obtain ⟨p2, p2'⟩ := p2
                by_cases he : x.a = T
                · have e1 : (x.a == T) = true := by simpa using he
                  have e2 : decide (x.d * y.c < y.d * x.c) = false := by simpa using hcmp he
                  clear hos hy hcmp he
                  go_wp2
                  (refine wp_region_later (by kernel_rfl) (by kernel_rfl) ?_; (repeat (go_big_quiet_step (fail))); refine wpQuiet_nil ?_; intro w1 hw1; obtain ⟨⟨wl, hbL⟩, hw1'⟩ := hw1; simp only at hw1'; subst hw1'; obtain ⟨hcL, hfL⟩ := bcell hbL)
                  have hbr2 := Lib.hid (ext_trans hbr.out hbL)
                  clear hcL hfL hbL
                  go_wp2
                  go_roundw
                  case rel => exact ⟨k2 + 1, by omega, by go_num, hbr2⟩
                  case measure => simp [intOf]; omega
                · have e1 : (x.a == T) = false := by simpa using he
                  clear hos hy hcmp he
                  go_wp2
                  (refine wp_region_later (by kernel_rfl) (by kernel_rfl) ?_; (repeat (go_big_quiet_step (fail))); refine wpQuiet_nil ?_; intro w1 hw1; obtain ⟨⟨wl, hbL⟩, hw1'⟩ := hw1; simp only at hw1'; subst hw1'; obtain ⟨hcL, hfL⟩ := bcell hbL)
                  have hbr2 := Lib.hid (ext_trans hbr.out hbL)
                  clear hcL hfL hbL
                  go_wp2
                  go_roundw
                  case rel => exact ⟨k2 + 1, by omega, by go_num, hbr2⟩
                  case measure => simp [intOf]; omega
              · have hke : k2 = l.length := by omega
                subst hke
                go_wp2
                go_roundw
                case rel => exact ⟨k + 1, by omega, by go_num, hbr⟩
                case measure => simp [intOf]; omega
        · have hke : k = l.length := by omega
          subst hke
          go_wp2
          go_meet
          exact hbl.out
    case rest => as_aux_lemma =>
      have hb := hcut
      obtain ⟨w5, hw5⟩ : ∃ x : World, x = wc := ⟨_, rfl⟩
      subst hw5
      have s5 : w4.heap.size ≤ w5.heap.size := (by have := hb.size; (try simp at this); omega)
      have b5 := Lib.hid (ext_trans b4.out hb)
      have t5 : w.heap.size ≤ w5.heap.size := b5.out.size
      have o5_s := Lib.hid (own_ext o4_s.out hb)
      clear hb hcut
      go_wp2_with fail
      refine (drawHonor_any A n c _ ((H.out.below b5.out).more b5.out.size) hn).mono ?_
      rintro e w6 ⟨l2, Ah, ch, p, rfl, hl92, ⟨hp0, hp1⟩, ho_h, hb⟩
      have s6 : w5.heap.size ≤ w6.heap.size := (by have := hb.size; (try simp at this); omega)
      have b6 := Lib.hid (ext_trans b5.out hb)
      have t6 : w.heap.size ≤ w6.heap.size := b6.out.size
      have o6_s := Lib.hid (own_ext o5_s.out hb)
      clear hb
      have oc_h := Lib.hid (own_base (base' := w5.heap.size + 0) ho_h (by simp))
      clear ho_h
      have HH1 := Lib.hid (fun (w : World) (A : Option Addr) (c : Nat) h => implHonor_any A l2.length c l2 p w (by omega) h)
      have HH2 := Lib.hid (fun (w : World) (A : Option Addr) (c : Nat) h => specHonor_any A l2.length c l2 p w (by omega) h)
      have HH3 := Lib.hid (fun (w : World) (A : Option Addr) (c : Nat) h => implHonor_any A l2.length c l2 (p + 1) w (by omega) h)
      have hsub := fun (h1 : honOk l2 p = true) (h2 : honOk l2 (p + 1) = true) => hon_sub h1 h2
      have hM0 := honB_le l2 p
      have hM1 := honB_le l2 (p + 1)
      obtain ⟨fine, hf⟩ : ∃ f, honOk l2 p = f := ⟨_, rfl⟩
      obtain ⟨one, ho⟩ : ∃ f, honOk l2 (p + 1) = f := ⟨_, rfl⟩
      obtain ⟨M0, h0⟩ : ∃ f, honB l2 p = f := ⟨_, rfl⟩
      obtain ⟨M1, h1⟩ : ∃ f, honB l2 (p + 1) = f := ⟨_, rfl⟩
      rw [h0, hf] at HH1 HH2
      rw [h1, ho] at HH3
      rw [h0, h1, hf, ho] at hsub
      rw [h0] at hM0
      rw [h1] at hM1
      obtain ⟨N0, hn0⟩ : ∃ f, M0.length = f := ⟨_, rfl⟩
      obtain ⟨N1, hn1⟩ : ∃ f, M1.length = f := ⟨_, rfl⟩
      rw [hn0] at HH1 HH2 hM0
      rw [hn1] at HH3 hM1
      have HN1 := Lib.hid hn1
      have HSUB := Lib.hid hsub
      have hff : (fine != fine) = false := by cases fine <;> rfl
      clear hsub hf ho h0 h1 hn0 hn1
      go_wp2_with fail
      refine (HH1.out _ Ah ch (Reads.of_own oc_h.out)).mono ?_
      rintro e w7 ⟨Aa, ca, rfl, ho_a, hb⟩
      have s7 : w6.heap.size ≤ w7.heap.size := (by have := hb.size; (try simp at this); omega)
      have b7 := Lib.hid (ext_trans b6.out hb)
      have t7 : w.heap.size ≤ w7.heap.size := b7.out.size
      have o7_s := Lib.hid (own_ext o6_s.out hb)
      have o7_h := Lib.hid (own_ext oc_h.out hb)
      have oc_a := Lib.hid (own_base (base' := w6.heap.size + 0) ho_a (by simp))
      clear ho_a
      clear hb
      go_wp2_with fail
      refine (HH2.out _ Ah ch (Reads.of_own o7_h.out)).mono ?_
      rintro e w8 ⟨Ab, cb, rfl, ho_b, hb⟩
      have s8 : w7.heap.size ≤ w8.heap.size := (by have := hb.size; (try simp at this); omega)
      have b8 := Lib.hid (ext_trans b7.out hb)
      have t8 : w.heap.size ≤ w8.heap.size := b8.out.size
      have o8_s := Lib.hid (own_ext o7_s.out hb)
      have o8_h := Lib.hid (own_ext o7_h.out hb)
      have o8_a := Lib.hid (own_ext oc_a.out hb)
      have oc_b := Lib.hid (own_base (base' := w7.heap.size + 0) ho_b (by simp))
      clear ho_b
      clear hb
      go_wp2_with fail
      refine (rInts_same Aa Ab N0 ca cb M0 _ (by omega) (Reads.of_own o8_a.out) (Reads.of_own oc_b.out)).mono ?_
      rintro e w9 ⟨rfl, hb⟩
      have s9 : w8.heap.size ≤ w9.heap.size := (by have := hb.size; (try simp at this); omega)
      have b9 := Lib.hid (ext_trans b8.out hb)
      have t9 : w.heap.size ≤ w9.heap.size := b9.out.size
      have o9_s := Lib.hid (own_ext o8_s.out hb)
      have o9_h := Lib.hid (own_ext o8_h.out hb)
      have o9_a := Lib.hid (own_ext o8_a.out hb)
      have o9_b := Lib.hid (own_ext oc_b.out hb)
      clear hb
      go_wp2_with fail
      refine (HH3.out _ Ah ch (Reads.of_own o9_h.out)).mono ?_
      rintro e w10 ⟨Am, cm, rfl, ho_m, hb⟩
      have s10 : w9.heap.size ≤ w10.heap.size := (by have := hb.size; (try simp at this); omega)
      have b10 := Lib.hid (ext_trans b9.out hb)
      have t10 : w.heap.size ≤ w10.heap.size := b10.out.size
      have o10_s := Lib.hid (own_ext o9_s.out hb)
      have o10_h := Lib.hid (own_ext o9_h.out hb)
      have o10_a := Lib.hid (own_ext o9_a.out hb)
      have o10_b := Lib.hid (own_ext o9_b.out hb)
      have oc_m := Lib.hid (own_base (base' := w9.heap.size + 0) ho_m (by simp))
      clear ho_m
      clear hb
      go_upto_region 22 with fail
      go_cut [139] (fun s139 wx => s139 = .bool (fine && one) ∧ w10 = wx)
      case first =>
        cases fine
        all_goals (go_wp2; go_meet; exact ⟨rfl, rfl⟩)
      case rest =>
        obtain ⟨rfl, rfl⟩ := hcut
        obtain ⟨fo, hfo⟩ : ∃ f, (fine && one) = f := ⟨_, rfl⟩
        have hsb : fo = true → ∀ x ∈ M1, x ∈ M0 := fun h => by
          rw [← hfo, Bool.and_eq_true] at h
          exact HSUB.out h.1 h.2
        rw [hfo]
        have HSB := Lib.hid hsb
        clear hfo hsb
        go_upto_if 139 with fail
        go_cut [18] (fun s18 wx => Below w10.heap.size w10 wx)
        case first => as_aux_lemma =>
          cases fo
          · go_wp2
            go_meet
            exact ext_refl _
          · go_wp2_with fail
            go_loopw [18] (fun i wr => ∃ k : Nat, k ≤ N1 ∧ i = .int .i64 k ∧ Hid (Below w10.heap.size w10 wr)) (fun i _ => N1 - (intOf i).toNat)
            case atStart => exact ⟨0, Nat.zero_le _, rfl, Lib.hid (ext_refl _)⟩
            case round =>
              obtain ⟨k, hk, rfl, hbl⟩ := hrel
              by_cases hlt : k < N1
              · obtain ⟨x, hx⟩ := list_split (l := M1) (k := k) (by rw [HN1.out]; exact hlt)
                have hin := Lib.hid (HSB.out (by first | rfl | trivial) x (List.mem_of_getElem? hx))
                have hom := own_ext oc_m.out hbl.out
                have hoa := Lib.hid (own_ext o10_a.out hbl.out)
                obtain ⟨b, o, rfl, hb, c0⟩ := ints_at (Reads.of_own hom) hx
                have hk1 : (k : Int) < (N1 : Int) := by omega
                have hk0 : (0 : Int) ≤ (k : Int) := by omega
                clear hom hx
                go_wp2_with fail
                refine (rHas_yes Aa N0 ca M0 x _ (by omega) (Reads.of_own hoa.out) hin.out).mono ?_
                rintro e wB ⟨rfl, hb⟩
                have hbB := Lib.hid (ext_trans hbl.out hb)
                clear hb
                go_wp2
                go_roundw
                case rel => exact ⟨k + 1, by omega, by go_num, hbB⟩
                case measure => simp [intOf]; omega
              · obtain rfl : N1 = k := by omega
                go_wp2
                go_meet
                exact hbl.out
        case rest => as_aux_lemma =>
          have hb := hcut
          obtain ⟨w11, hw11⟩ : ∃ x : World, x = wc := ⟨_, rfl⟩
          subst hw11
          have s11 : w10.heap.size ≤ w11.heap.size := (by have := hb.size; (try simp at this); omega)
          have b11 := Lib.hid (ext_trans b10.out hb)
          have t11 : w.heap.size ≤ w11.heap.size := b11.out.size
          have o11_s := Lib.hid (own_ext o10_s.out hb)
          have o11_h := Lib.hid (own_ext o10_h.out hb)
          have o11_a := Lib.hid (own_ext o10_a.out hb)
          have o11_b := Lib.hid (own_ext o10_b.out hb)
          have o11_m := Lib.hid (own_ext oc_m.out hb)
          clear hb hcut
          go_wp2_with fail
          refine (drawLongestRise_any A n c _ ((H.out.below b11.out).more b11.out.size) hn).mono ?_
          rintro e w12 ⟨l3, Au, cu, rfl, hl93, ho_u, hb⟩
          have s12 : w11.heap.size ≤ w12.heap.size := (by have := hb.size; (try simp at this); omega)
          have b12 := Lib.hid (ext_trans b11.out hb)
          have t12 : w.heap.size ≤ w12.heap.size := b12.out.size
          have o12_s := Lib.hid (own_ext o11_s.out hb)
          have o12_h := Lib.hid (own_ext o11_h.out hb)
          have o12_a := Lib.hid (own_ext o11_a.out hb)
          have o12_b := Lib.hid (own_ext o11_b.out hb)
          have o12_m := Lib.hid (own_ext o11_m.out hb)
          clear hb
          have oc_u := Lib.hid (own_base (base' := w11.heap.size + 0) ho_u (by simp))
          clear ho_u
          have HR1 := Lib.hid (fun (w : World) (A : Option Addr) (c : Nat) h => implRise_any A l3.length c l3 w (by omega) h)
          have HR2 := Lib.hid (fun (w : World) (A : Option Addr) (c : Nat) h => specRise_any A l3.length c l3 w (by omega) h)
          have hrl := fun (hok : riseOk l3 = true) => rise_law hok
          have hle := rise_le l3
          obtain ⟨X, hX⟩ : ∃ X, riseA l3 = X := ⟨_, rfl⟩
          obtain ⟨Z, hZ⟩ : ∃ Z, riseZ l3 = Z := ⟨_, rfl⟩
          obtain ⟨told, htold⟩ : ∃ f, riseOk l3 = f := ⟨_, rfl⟩
          rw [hX, hZ, htold] at HR1 HR2 hrl
          rw [hX, hZ] at hle
          have HRL := Lib.hid hrl
          have htt : (told != told) = false := by cases told <;> rfl
          have hXZ : decide (Z < X) = false := by simp; omega
          clear hX hZ htold hrl
          go_wp2_with fail
          refine (HR1.out _ Au cu (Reads.of_own oc_u.out)).mono ?_
          rintro e w13 ⟨rfl, hb⟩
          have s13 : w12.heap.size ≤ w13.heap.size := (by have := hb.size; (try simp at this); omega)
          have b13 := Lib.hid (ext_trans b12.out hb)
          have t13 : w.heap.size ≤ w13.heap.size := b13.out.size
          have o13_s := Lib.hid (own_ext o12_s.out hb)
          have o13_h := Lib.hid (own_ext o12_h.out hb)
          have o13_a := Lib.hid (own_ext o12_a.out hb)
          have o13_b := Lib.hid (own_ext o12_b.out hb)
          have o13_m := Lib.hid (own_ext o12_m.out hb)
          have o13_u := Lib.hid (own_ext oc_u.out hb)
          clear hb
          go_wp2_with fail
          refine (HR2.out _ Au cu (Reads.of_own o13_u.out)).mono ?_
          rintro e w14 ⟨rfl, hb⟩
          have s14 : w13.heap.size ≤ w14.heap.size := (by have := hb.size; (try simp at this); omega)
          have b14 := Lib.hid (ext_trans b13.out hb)
          have t14 : w.heap.size ≤ w14.heap.size := b14.out.size
          have o14_s := Lib.hid (own_ext o13_s.out hb)
          have o14_h := Lib.hid (own_ext o13_h.out hb)
          have o14_a := Lib.hid (own_ext o13_a.out hb)
          have o14_b := Lib.hid (own_ext o13_b.out hb)
          have o14_m := Lib.hid (own_ext o13_m.out hb)
          have o14_u := Lib.hid (own_ext o13_u.out hb)
          clear hb
          go_upto_block 6 with fail
          go_cut [26] (fun s26 wx => Below w14.heap.size w14 wx)
          case first => as_aux_lemma =>
            go_wp2_with fail
            go_loopw [26] (fun i wr => ∃ j : Nat, (j + 1 ≤ l3.length ∨ j = 0) ∧ i = .int .i64 ((j : Int) + 1) ∧ Hid (Below w14.heap.size w14 wr)) (fun i _ => l3.length - (intOf i).toNat)
            case atStart => exact ⟨0, .inr rfl, rfl, Lib.hid (ext_refl _)⟩
            case round =>
              obtain ⟨j, hj, rfl, hbl⟩ := hrel
              by_cases hlt : j + 1 < l3.length
              · have q1 : (j : Int) + 1 < (l3.length : Int) := by omega
                have q3 : (j : Int) < (l3.length : Int) := by omega
                have q0 : (0 : Int) ≤ (j : Int) + 1 := by omega
                have q4 : (0 : Int) ≤ (j : Int) := by omega
                cases hoo : told
                · subst hoo
                  go_wp2
                  go_meet
                  exact hbl.out
                · subst hoo
                  obtain ⟨r, hr⟩ := list_split (l := l3) (k := j + 1) (hlt)
                  obtain ⟨s, hs⟩ := list_split (l := l3) (k := j) (by omega)
                  have hos := own_ext o14_u.out hbl.out
                  obtain ⟨b, o, hA, hb, c0, c1, c2, c3, c4⟩ := rows_at (Reads.of_own hos) hr
                  obtain ⟨b', o', hA', hb', d0, d1, d2, d3, d4⟩ := rows_at (Reads.of_own hos) hs
                  rw [hA] at hA'
                  injection hA' with hA'
                  injection hA' with hA1 hA2
                  subst hA1 hA2 hA
                  have hrule := HRL.out (by first | rfl | trivial) j r s hr hs
                  clear hos hr hs
                  by_cases h1 : X < r.a
                  · have e1 : decide (X < r.a) = true := by simpa using h1
                    by_cases h2 : r.a ≤ Z
                    · have e2 : decide (r.a ≤ Z) = true := by simpa using h2
                      have e3 : decide (r.b ≤ s.b) = false := by simpa using hrule h1 h2
                      clear hrule h1 h2
                      go_wp2
                      (refine wp_region_later (by kernel_rfl) (by kernel_rfl) ?_; (repeat (go_big_quiet_step (fail))); refine wpQuiet_nil ?_; intro w1 hw1; obtain ⟨⟨wl, hbL⟩, hw1'⟩ := hw1; simp only at hw1'; subst hw1'; obtain ⟨hcL, hfL⟩ := bcell hbL)
                      have hbr2 := Lib.hid (ext_trans hbl.out hbL)
                      clear hcL hfL hbL
                      go_wp2
                      go_roundw
                      case rel => exact ⟨j + 1, by omega, by go_num, hbr2⟩
                      case measure => simp [intOf]; omega
                    · have e2 : decide (r.a ≤ Z) = false := by simpa using h2
                      clear hrule h1 h2
                      go_wp2
                      (refine wp_region_later (by kernel_rfl) (by kernel_rfl) ?_; (repeat (go_big_quiet_step (fail))); refine wpQuiet_nil ?_; intro w1 hw1; obtain ⟨⟨wl, hbL⟩, hw1'⟩ := hw1; simp only at hw1'; subst hw1'; obtain ⟨hcL, hfL⟩ := bcell hbL)
                      have hbr2 := Lib.hid (ext_trans hbl.out hbL)
                      clear hcL hfL hbL
                      go_wp2
                      go_roundw
                      case rel => exact ⟨j + 1, by omega, by go_num, hbr2⟩
                      case measure => simp [intOf]; omega
                  · have e1 : decide (X < r.a) = false := by simpa using h1
                    clear hrule h1
                    go_wp2
                    (refine wp_region_later (by kernel_rfl) (by kernel_rfl) ?_; (repeat (go_big_quiet_step (fail))); refine wpQuiet_nil ?_; intro w1 hw1; obtain ⟨⟨wl, hbL⟩, hw1'⟩ := hw1; simp only at hw1'; subst hw1'; obtain ⟨hcL, hfL⟩ := bcell hbL)
                    have hbr2 := Lib.hid (ext_trans hbl.out hbL)
                    clear hcL hfL hbL
                    go_wp2
                    go_roundw
                    case rel => exact ⟨j + 1, by omega, by go_num, hbr2⟩
                    case measure => simp [intOf]; omega
              · have q1 : ¬ ((j : Int) + 1 < (l3.length : Int)) := by omega
                go_wp2
                go_meet
                exact hbl.out
          case rest => as_aux_lemma =>
            have hb := hcut
            obtain ⟨w15, hw15⟩ : ∃ x : World, x = wc := ⟨_, rfl⟩
            subst hw15
            have s15 : w14.heap.size ≤ w15.heap.size := (by have := hb.size; (try simp at this); omega)
            have b15 := Lib.hid (ext_trans b14.out hb)
            have t15 : w.heap.size ≤ w15.heap.size := b15.out.size
            have o15_s := Lib.hid (own_ext o14_s.out hb)
            have o15_h := Lib.hid (own_ext o14_h.out hb)
            have o15_a := Lib.hid (own_ext o14_a.out hb)
            have o15_b := Lib.hid (own_ext o14_b.out hb)
            have o15_m := Lib.hid (own_ext o14_m.out hb)
            have o15_u := Lib.hid (own_ext o14_u.out hb)
            clear hb hcut
            go_wp2_with fail
            refine (drawPassShare_any A n c _ ((H.out.below b15.out).more b15.out.size) hn).mono ?_
            rintro e w16 ⟨l4, Av, cv, rfl, hl94, ho_v, hb⟩
            have s16 : w15.heap.size ≤ w16.heap.size := (by have := hb.size; (try simp at this); omega)
            have b16 := Lib.hid (ext_trans b15.out hb)
            have t16 : w.heap.size ≤ w16.heap.size := b16.out.size
            have o16_s := Lib.hid (own_ext o15_s.out hb)
            have o16_h := Lib.hid (own_ext o15_h.out hb)
            have o16_a := Lib.hid (own_ext o15_a.out hb)
            have o16_b := Lib.hid (own_ext o15_b.out hb)
            have o16_m := Lib.hid (own_ext o15_m.out hb)
            have o16_u := Lib.hid (own_ext o15_u.out hb)
            clear hb
            have oc_v := Lib.hid (own_base (base' := w15.heap.size + 0) ho_v (by simp))
            clear ho_v
            have HS1 := Lib.hid (fun (w : World) (A : Option Addr) (c : Nat) h => implShare_any A l4.length c l4 w (by omega) h)
            have HS2 := Lib.hid (fun (w : World) (A : Option Addr) (c : Nat) h => specShare_any A l4.length c l4 w (by omega) h)
            have hsl := share_le (l := l4)
            obtain ⟨X4, hX4⟩ : ∃ X, shareN l4 = X := ⟨_, rfl⟩
            obtain ⟨Z4, hZ4⟩ : ∃ Z, shareD l4 = Z := ⟨_, rfl⟩
            obtain ⟨kn, hkn⟩ : ∃ f, shareOk l4 = f := ⟨_, rfl⟩
            rw [hX4, hZ4, hkn] at HS1 HS2
            rw [hX4, hZ4] at hsl
            have hX4e : (X4 == X4) = true := by simp
            have hZ4e : (Z4 == Z4) = true := by simp
            have hkne : (kn == kn) = true := by cases kn <;> rfl
            have hXZ4 : decide (X4 ≤ Z4) = true := by simpa using hsl
            clear hX4 hZ4 hkn
            go_wp2_with fail
            refine (HS1.out _ Av cv (Reads.of_own oc_v.out)).mono ?_
            rintro e w17 ⟨rfl, hb⟩
            have s17 : w16.heap.size ≤ w17.heap.size := (by have := hb.size; (try simp at this); omega)
            have b17 := Lib.hid (ext_trans b16.out hb)
            have t17 : w.heap.size ≤ w17.heap.size := b17.out.size
            have o17_s := Lib.hid (own_ext o16_s.out hb)
            have o17_h := Lib.hid (own_ext o16_h.out hb)
            have o17_a := Lib.hid (own_ext o16_a.out hb)
            have o17_b := Lib.hid (own_ext o16_b.out hb)
            have o17_m := Lib.hid (own_ext o16_m.out hb)
            have o17_u := Lib.hid (own_ext o16_u.out hb)
            have o17_v := Lib.hid (own_ext oc_v.out hb)
            clear hb
            go_wp2_with fail
            refine (HS2.out _ Av cv (Reads.of_own o17_v.out)).mono ?_
            rintro e w18 ⟨rfl, hb⟩
            have s18 : w17.heap.size ≤ w18.heap.size := (by have := hb.size; (try simp at this); omega)
            have b18 := Lib.hid (ext_trans b17.out hb)
            have t18 : w.heap.size ≤ w18.heap.size := b18.out.size
            have o18_s := Lib.hid (own_ext o17_s.out hb)
            have o18_h := Lib.hid (own_ext o17_h.out hb)
            have o18_a := Lib.hid (own_ext o17_a.out hb)
            have o18_b := Lib.hid (own_ext o17_b.out hb)
            have o18_m := Lib.hid (own_ext o17_m.out hb)
            have o18_u := Lib.hid (own_ext o17_u.out hb)
            have o18_v := Lib.hid (own_ext o17_v.out hb)
            clear hb
            cases kn
            all_goals
              go_wp2
              go_ret
              exact ⟨rfl, b18.out⟩
end Go.Proofs.Ytkgeiemelhkkcaa
