
/- The law FnTerms, walked. -/
import Derived.Deep.CutBlock
import Derived.Test.YtkgeiemelhkkcaaTrmH
import Derived.Test.YtkgeiemelhkkcaaTrmP
import Derived.Test.YtkgeiemelhkkcaaLineLaw
import Derived.Test.YtkgeiemelhkkcaaJoinS
namespace Go.Proofs.Ytkgeiemelhkkcaa
open Go.RowKit
set_option linter.unusedVariables false
set_option linter.unusedSimpArgs false
theorem ba_iff (a b : ByteArray) : (a.toList = b.toList) ↔ a = b := by
  rw [ByteArray.toList_eq, ByteArray.toList_eq]
  exact ⟨fun h => bl_inj h, fun h => by rw [h]⟩
theorem ba_yes {a b : ByteArray} (h : a = b) : (a.toList == b.toList) = true := by rw [beq_iff_eq]; exact (ba_iff a b).2 h
theorem ba_nyes {a b : ByteArray} (h : a = b) : (!a.toList == b.toList) = false := by rw [ba_yes h]; rfl
set_option maxRecDepth 100000 in
set_option maxHeartbeats 8000000 in
theorem law_FnTerms (A : Option Addr) (n c : Nat) (w : World) (h : Code w w.heap.size A n) (hn63 : n ≤ maxLen) :
    Calls Try.prog 14 #[.slice A n c] w fun e w' => e = .returned (.bool true) ∧ Below w.heap.size w w' := by
  have HV := Lib.hid (fun w => rBig_any A n c w)
  by_cases hbig : (65536 : Int) < n
  · rw [decide_eq_true hbig] at HV
    go_enter Try.func14, Try.ntmps14
    go_wp2_with (go_at_call 44; refine (HV.out _).mono ?_; rintro e w' ⟨rfl, hb⟩)
    go_ret
    exact ⟨rfl, hb⟩
  · rw [decide_eq_false hbig] at HV
    have hn : n ≤ 65536 := by omega
    have H := Lib.hid h
    clear h hbig hn63
    go_enter Try.func14, Try.ntmps14
    go_wp2_with fail
    refine (HV.out _).mono ?_
    rintro e w1 ⟨rfl, hb⟩
    have s1 : w.heap.size ≤ w1.heap.size := (by have := hb.size; (try simp at this); omega)
    have b1 := Lib.hid (ext_trans (ext_refl w) hb)
    have t1 : w.heap.size ≤ w1.heap.size := b1.out.size
    clear hb
    go_wp2_with fail
    refine (drawGrowth_any A n c _ ((H.out.below b1.out).more b1.out.size) hn).mono ?_
    rintro e w2 ⟨l, As, cs, rfl, hl9, ho_s, hb⟩
    have s2 : w1.heap.size ≤ w2.heap.size := (by have := hb.size; (try simp at this); omega)
    have b2 := Lib.hid (ext_trans b1.out hb)
    have t2 : w.heap.size ≤ w2.heap.size := b2.out.size
    clear hb
    have oc_s := Lib.hid (own_base (base' := w1.heap.size + 0) ho_s (by simp))
    clear ho_s
    have HG1 := Lib.hid (fun (w : World) (A : Option Addr) (c : Nat) h => implGrowth_any A l.length c l w (by omega) h)
    have HG2 := Lib.hid (fun (w : World) (A : Option Addr) (c : Nat) h => specGrowth_any A l.length c l w (by omega) h)
    have HAR := Lib.hid (fun (w : World) (A : Option Addr) (c : Nat) h => areTermRows_any A l.length c l w (by omega) h)
    have HP1 := Lib.hid (fun (w : World) (A : Option Addr) (c : Nat) h => implReport_any A l.length c l w (by omega) h)
    have HP2 := Lib.hid (fun (w : World) (A : Option Addr) (c : Nat) h => specReport_any A l.length c l w (by omega) h)
    have hgs := fun (h : areB l = true) (n : Nat) (x y : R5) (hn : l.length = n + 1) (h0 : l[0]? = some x) (h1 : l[n]? = some y) => grow_sum h hn h0 h1
    have hbd := fun (h : areB l = true) (k : Nat) (r : R5) (hr : l[k]? = some r) => row_bounds (are_all h hr)
    have hnl := fun (h : areB l = true) => rep_nl h
    have hG9 := growB_le l
    have hGb := grow_bounds l
    have hRz := rep_size l
    obtain ⟨ok, hok⟩ : ∃ f, areB l = f := ⟨_, rfl⟩
    obtain ⟨G, hG⟩ : ∃ f, growB l = f := ⟨_, rfl⟩
    obtain ⟨RB, hRB⟩ : ∃ f, repB l = f := ⟨_, rfl⟩
    rw [hok, hG] at HG1 HG2
    rw [hok] at HAR hbd
    rw [hok, hRB] at HP1 HP2 hnl
    rw [hok, hG] at hgs
    rw [hG] at hG9 hGb
    rw [hRB] at hRz
    obtain ⟨NG, hNG⟩ : ∃ f, G.length = f := ⟨_, rfl⟩
    rw [hNG] at HG1 HG2 hG9
    have HGS := Lib.hid hgs
    have HBD := Lib.hid hbd
    have HNL := Lib.hid hnl
    have HGB := Lib.hid hGb
    have hkk : (ok != ok) = false := by cases ok <;> rfl
    have hrr := ba_nyes (rfl : RB = RB)
    clear hgs hbd hnl hGb hok hG hRB hNG
    go_wp2_with fail
    refine (HG1.out _ As cs (Reads.of_own oc_s.out)).mono ?_
    rintro e w3 ⟨Aa, ca, rfl, ho_a, hb⟩
    have s3 : w2.heap.size ≤ w3.heap.size := (by have := hb.size; (try simp at this); omega)
    have b3 := Lib.hid (ext_trans b2.out hb)
    have t3 : w.heap.size ≤ w3.heap.size := b3.out.size
    have o3_s := Lib.hid (own_ext oc_s.out hb)
    have oc_a := Lib.hid (own_base (base' := w2.heap.size + 0) ho_a (by simp))
    clear ho_a
    clear hb
    go_wp2_with fail
    refine (HG2.out _ As cs (Reads.of_own o3_s.out)).mono ?_
    rintro e w4 ⟨Ab, cb, rfl, ho_b, hb⟩
    have s4 : w3.heap.size ≤ w4.heap.size := (by have := hb.size; (try simp at this); omega)
    have b4 := Lib.hid (ext_trans b3.out hb)
    have t4 : w.heap.size ≤ w4.heap.size := b4.out.size
    have o4_s := Lib.hid (own_ext o3_s.out hb)
    have o4_a := Lib.hid (own_ext oc_a.out hb)
    have oc_b := Lib.hid (own_base (base' := w3.heap.size + 0) ho_b (by simp))
    clear ho_b
    clear hb
    go_wp2_with fail
    refine (rInts_same Aa Ab NG ca cb G _ (by omega) (Reads.of_own o4_a.out) (Reads.of_own oc_b.out)).mono ?_
    rintro e w5 ⟨rfl, hb⟩
    have s5 : w4.heap.size ≤ w5.heap.size := (by have := hb.size; (try simp at this); omega)
    have b5 := Lib.hid (ext_trans b4.out hb)
    have t5 : w.heap.size ≤ w5.heap.size := b5.out.size
    have o5_s := Lib.hid (own_ext o4_s.out hb)
    have o5_a := Lib.hid (own_ext o4_a.out hb)
    have o5_b := Lib.hid (own_ext oc_b.out hb)
    clear hb
    go_wp2_with fail
    refine (HAR.out _ As cs (Reads.of_own o5_s.out)).mono ?_
    rintro e w6 ⟨rfl, hb⟩
    have s6 : w5.heap.size ≤ w6.heap.size := (by have := hb.size; (try simp at this); omega)
    have b6 := Lib.hid (ext_trans b5.out hb)
    have t6 : w.heap.size ≤ w6.heap.size := b6.out.size
    have o6_s := Lib.hid (own_ext o5_s.out hb)
    have o6_a := Lib.hid (own_ext o5_a.out hb)
    have o6_b := Lib.hid (own_ext o5_b.out hb)
    clear hb
    go_upto_region 9 with fail
    go_cut [79] (fun s79 wx => s79 = .bool false ∧ Below w6.heap.size w6 wx)
    case first => as_aux_lemma =>
      cases hoo : ok
      · subst hoo
        (refine wp_region_later (by kernel_rfl) (by kernel_rfl) ?_; (repeat (go_big_quiet_step (fail))); refine wpQuiet_nil ?_; intro wN hw1; obtain ⟨⟨wl, hb⟩, hw1'⟩ := hw1; simp only at hw1'; subst hw1')
        go_wp2
        go_meet
        exact ⟨rfl, hb⟩
      · subst hoo
        by_cases h0 : 0 < l.length
        · obtain ⟨m, hm⟩ : ∃ m, l.length = m + 1 := ⟨l.length - 1, by omega⟩
          obtain ⟨x, hx⟩ := list_split (l := l) (k := 0) h0
          obtain ⟨y, hy⟩ := list_split (l := l) (k := m) (by omega)
          obtain ⟨b, o, hA, hbo, c0, c1, c2, c3, c4⟩ := rows_at (Reads.of_own o6_s.out) hy
          obtain ⟨b', o', hA', hbo', d0, d1, d2, d3, d4⟩ := rows_at (Reads.of_own o6_s.out) hx
          rw [hA] at hA'
          injection hA' with hA'
          injection hA' with hA1 hA2
          subst hA1 hA2 hA
          have hsum := HGS.out (by first | rfl | trivial) m x y hm hx hy
          obtain ⟨_, ⟨x2, x2'⟩, _⟩ := HBD.out (by first | rfl | trivial) 0 x hx
          obtain ⟨_, ⟨y2, y2'⟩, _⟩ := HBD.out (by first | rfl | trivial) m y hy
          have HSUM := Lib.hid (fun (w : Later w6) => rSum_any Aa NG ca G 999 w.world (by omega) (by decide) HGB.out (Reads.of_own (own_ext o6_a.out w.h)))
          rw [hsum] at HSUM
          have hm1 : m + 1 ≤ l.length := by omega
          have hidx : (l.length : Int) - 1 = (m : Int) := by omega
          have hmi : (m : Int) < (l.length : Int) := by omega
          have hm0 : (0 : Int) ≤ (m : Int) := by omega
          have hp0 : (0 : Int) < (l.length : Int) := by omega
          have q5 : IntKind.i64.wrap ((l.length : Int) - 1) = (m : Int) := by rw [hidx]; exact IntWalk.i64_in _ (by omega)
          have q6 : IntKind.i64.wrap (y.b - x.b) = y.b - x.b := IntWalk.i64_in _ (by omega)
          clear hsum hx hy hm
          (refine wp_region_later (by kernel_rfl) (by kernel_rfl) ?_; (repeat (go_big_quiet_step ((go_at_call 52; with_reducible exact Calls.later_of (HSUM.out _))))); refine wpQuiet_nil ?_; intro wN hw1; obtain ⟨⟨wl, hb⟩, hw1'⟩ := hw1; simp only at hw1'; subst hw1')
          go_wp2
          go_meet
          exact ⟨rfl, hb⟩
        · have hz2 : ¬ ((0 : Int) < (l.length : Int)) := by omega
          (refine wp_region_later (by kernel_rfl) (by kernel_rfl) ?_; (repeat (go_big_quiet_step (fail))); refine wpQuiet_nil ?_; intro wN hw1; obtain ⟨⟨wl, hb⟩, hw1'⟩ := hw1; simp only at hw1'; subst hw1')
          go_wp2
          go_meet
          exact ⟨rfl, hb⟩
    case rest => as_aux_lemma =>
      obtain ⟨rfl, hb⟩ := hcut
      obtain ⟨w7, hw7⟩ : ∃ x : World, x = wc := ⟨_, rfl⟩
      subst hw7
      have s7 : w6.heap.size ≤ w7.heap.size := (by have := hb.size; (try simp at this); omega)
      have b7 := Lib.hid (ext_trans b6.out hb)
      have t7 : w.heap.size ≤ w7.heap.size := b7.out.size
      have o7_s := Lib.hid (own_ext o6_s.out hb)
      have o7_a := Lib.hid (own_ext o6_a.out hb)
      have o7_b := Lib.hid (own_ext o6_b.out hb)
      clear hb
      go_wp2_with fail
      refine (HP1.out _ As cs (Reads.of_own o7_s.out)).mono ?_
      rintro e w8 ⟨rfl, hb⟩
      have s8 : w7.heap.size ≤ w8.heap.size := (by have := hb.size; (try simp at this); omega)
      have b8 := Lib.hid (ext_trans b7.out hb)
      have t8 : w.heap.size ≤ w8.heap.size := b8.out.size
      have o8_s := Lib.hid (own_ext o7_s.out hb)
      have o8_a := Lib.hid (own_ext o7_a.out hb)
      have o8_b := Lib.hid (own_ext o7_b.out hb)
      clear hb
      go_wp2_with fail
      refine (HP2.out _ As cs (Reads.of_own o8_s.out)).mono ?_
      rintro e w9 ⟨rfl, hb⟩
      have s9 : w8.heap.size ≤ w9.heap.size := (by have := hb.size; (try simp at this); omega)
      have b9 := Lib.hid (ext_trans b8.out hb)
      have t9 : w.heap.size ≤ w9.heap.size := b9.out.size
      have o9_s := Lib.hid (own_ext o8_s.out hb)
      have o9_a := Lib.hid (own_ext o8_a.out hb)
      have o9_b := Lib.hid (own_ext o8_b.out hb)
      clear hb
      go_wp2_with fail
      go_loopw [13, 14] (fun z i wr => ∃ k : Nat, k ≤ RB.size ∧ i = .int .i64 k ∧ z = .int .i64 (((bl RB).take k).count 10 : Nat) ∧ Hid (Below w9.heap.size w9 wr)) (fun _ i _ => RB.size - (intOf i).toNat)
      case atStart => exact ⟨0, Nat.zero_le _, rfl, rfl, Lib.hid (ext_refl _)⟩
      case round =>
        obtain ⟨k, hk, rfl, rfl, hbl⟩ := hrel
        by_cases hlt : k < RB.size
        · have hc8 := UInt8.toNat_lt RB[k]
          have hle : ((bl RB).take k).count 10 ≤ k := Nat.le_trans List.count_le_length (List.length_take_le k _)
          have hstep : ((bl RB).take (k + 1)).count 10 = ((bl RB).take k).count 10 + (if RB[k] = 10 then 1 else 0) := by
            rw [List.take_add_one, bl_get hlt, List.count_append]
            congr 1
            by_cases h10 : RB[k] = 10
            · simp [h10]
            · simp [h10]
          obtain ⟨C, hC⟩ : ∃ C, ((bl RB).take k).count 10 = C := ⟨_, rfl⟩
          rw [hC] at hle hstep ⊢
          by_cases h10 : RB[k] = 10
          · rw [if_pos h10] at hstep
            have HST := Lib.hid hstep
            have e1 : ((RB[k].toNat : Int) == 10) = true := by simp [h10]
            clear hstep hC h10
            go_wp2
            go_roundw
            case rel => exact ⟨k + 1, by omega, by go_num, by rw [HST.out]; go_num, hbl⟩
            case measure => simp [intOf]; omega
          · rw [if_neg h10] at hstep
            have HST := Lib.hid hstep
            have e1 : ((RB[k].toNat : Int) == 10) = false := by
              rw [beq_eq_false_iff_ne]
              intro e
              apply h10
              apply UInt8.toNat_inj.1
              have : RB[k].toNat = 10 := by omega
              rw [this]; rfl
            clear hstep hC h10
            go_wp2
            go_roundw
            case rel => exact ⟨k + 1, by omega, by go_num, by rw [HST.out]; rfl, hbl⟩
            case measure => simp [intOf]; omega
        · have hke : k = RB.size := by omega
          have hall : ((bl RB).take k).count 10 = nl RB := by rw [hke, ← bl_size RB, List.take_length]; rfl
          rw [hall, hke]
          clear hall hke
          obtain ⟨w10, hw10⟩ : ∃ x : World, x = wr := ⟨_, rfl⟩
          subst hw10
          have hb := hbl.out
          have s10 : w9.heap.size ≤ w10.heap.size := (by have := hb.size; (try simp at this); omega)
          have b10 := Lib.hid (ext_trans b9.out hb)
          have t10 : w.heap.size ≤ w10.heap.size := b10.out.size
          have o10_s := Lib.hid (own_ext o9_s.out hb)
          have o10_a := Lib.hid (own_ext o9_a.out hb)
          have o10_b := Lib.hid (own_ext o9_b.out hb)
          clear hb hbl
          go_upto_region 21 with fail
          go_cut [116] (fun s116 wx => s116 = .bool false ∧ Below w10.heap.size w10 wx)
          case first => as_aux_lemma =>
            cases hoo : ok
            · subst hoo
              go_wp2
              go_meet
              exact ⟨rfl, ext_refl _⟩
            · subst hoo
              have hnn := HNL.out (by first | rfl | trivial)
              have e1 : ((nl RB : Int) != (l.length : Int)) = false := by rw [hnn]; simp
              clear hnn
              go_wp2
              go_meet
              exact ⟨rfl, ext_refl _⟩
          case rest => as_aux_lemma =>
            obtain ⟨rfl, hb⟩ := hcut
            obtain ⟨w11, hw11⟩ : ∃ x : World, x = wc := ⟨_, rfl⟩
            subst hw11
            have s11 : w10.heap.size ≤ w11.heap.size := (by have := hb.size; (try simp at this); omega)
            have b11 := Lib.hid (ext_trans b10.out hb)
            have t11 : w.heap.size ≤ w11.heap.size := b11.out.size
            have o11_s := Lib.hid (own_ext o10_s.out hb)
            have o11_a := Lib.hid (own_ext o10_a.out hb)
            have o11_b := Lib.hid (own_ext o10_b.out hb)
            clear hb
            go_wp2_with fail
            refine (drawJoin_any A n c _ ((H.out.below b11.out).more b11.out.size) hn).mono ?_
            rintro e w12 ⟨l2, m2, Ax, Ay, cx, cy, rfl, hl2, hm2, ho_x, ho_y, hb⟩
            have s12 : w11.heap.size ≤ w12.heap.size := (by have := hb.size; (try simp at this); omega)
            have b12 := Lib.hid (ext_trans b11.out hb)
            have t12 : w.heap.size ≤ w12.heap.size := b12.out.size
            have o12_s := Lib.hid (own_ext o11_s.out hb)
            have o12_a := Lib.hid (own_ext o11_a.out hb)
            have o12_b := Lib.hid (own_ext o11_b.out hb)
            clear hb
            have oc_x := Lib.hid (own_base (base' := w11.heap.size + 0) ho_x (by simp))
            clear ho_x
            have oc_y := Lib.hid (own_base (base' := w11.heap.size + 0) ho_y (by simp))
            clear ho_y
            have HJ1 := Lib.hid (fun (w : World) (A B : Option Addr) (c d : Nat) h k => implJoin_any A B l2.length m2.length c d l2 m2 w (by omega) (by omega) h k)
            have HJ2 := Lib.hid (fun (w : World) (A B : Option Addr) (c d : Nat) h k => specJoin_any A B l2.length m2.length c d l2 m2 w (by omega) (by omega) h k)
            have HJ3 := Lib.hid (fun (w : World) (A B : Option Addr) (c d : Nat) h k => implJoin_any A B m2.length l2.length c d m2 l2 w (by omega) (by omega) h k)
            rw [← (join_comm l2 m2).1, ← (join_comm l2 m2).2] at HJ3
            have hJ := joinB_le (l := l2) (m := m2)
            obtain ⟨told, htold⟩ : ∃ f, joinOk l2 m2 = f := ⟨_, rfl⟩
            obtain ⟨J, hJJ⟩ : ∃ f, joinB l2 m2 = f := ⟨_, rfl⟩
            rw [htold, hJJ] at HJ1 HJ2 HJ3
            rw [hJJ] at hJ
            obtain ⟨NJ, hNJ⟩ : ∃ f, J.length = f := ⟨_, rfl⟩
            rw [hNJ] at HJ1 HJ2 HJ3 hJ
            have htt : (told != told) = false := by cases told <;> rfl
            clear htold hJJ hNJ
            go_wp2_with fail
            refine (HJ1.out _ Ax Ay cx cy (Reads.of_own oc_x.out) (Reads.of_own oc_y.out)).mono ?_
            rintro e w13 ⟨Aj, cj, rfl, ho_j, hb⟩
            have s13 : w12.heap.size ≤ w13.heap.size := (by have := hb.size; (try simp at this); omega)
            have b13 := Lib.hid (ext_trans b12.out hb)
            have t13 : w.heap.size ≤ w13.heap.size := b13.out.size
            have o13_s := Lib.hid (own_ext o12_s.out hb)
            have o13_a := Lib.hid (own_ext o12_a.out hb)
            have o13_b := Lib.hid (own_ext o12_b.out hb)
            have o13_x := Lib.hid (own_ext oc_x.out hb)
            have o13_y := Lib.hid (own_ext oc_y.out hb)
            have oc_j := Lib.hid (own_base (base' := w12.heap.size + 0) ho_j (by simp))
            clear ho_j
            clear hb
            go_wp2_with fail
            refine (HJ2.out _ Ax Ay cx cy (Reads.of_own o13_x.out) (Reads.of_own o13_y.out)).mono ?_
            rintro e w14 ⟨Ak, ck, rfl, ho_k, hb⟩
            have s14 : w13.heap.size ≤ w14.heap.size := (by have := hb.size; (try simp at this); omega)
            have b14 := Lib.hid (ext_trans b13.out hb)
            have t14 : w.heap.size ≤ w14.heap.size := b14.out.size
            have o14_s := Lib.hid (own_ext o13_s.out hb)
            have o14_a := Lib.hid (own_ext o13_a.out hb)
            have o14_b := Lib.hid (own_ext o13_b.out hb)
            have o14_x := Lib.hid (own_ext o13_x.out hb)
            have o14_y := Lib.hid (own_ext o13_y.out hb)
            have o14_j := Lib.hid (own_ext oc_j.out hb)
            have oc_k := Lib.hid (own_base (base' := w13.heap.size + 0) ho_k (by simp))
            clear ho_k
            clear hb
            go_wp2_with fail
            refine (rTerms_same Aj Ak NJ cj ck J _ (by omega) (Reads.of_own o14_j.out) (Reads.of_own oc_k.out)).mono ?_
            rintro e w15 ⟨rfl, hb⟩
            have s15 : w14.heap.size ≤ w15.heap.size := (by have := hb.size; (try simp at this); omega)
            have b15 := Lib.hid (ext_trans b14.out hb)
            have t15 : w.heap.size ≤ w15.heap.size := b15.out.size
            have o15_s := Lib.hid (own_ext o14_s.out hb)
            have o15_a := Lib.hid (own_ext o14_a.out hb)
            have o15_b := Lib.hid (own_ext o14_b.out hb)
            have o15_x := Lib.hid (own_ext o14_x.out hb)
            have o15_y := Lib.hid (own_ext o14_y.out hb)
            have o15_j := Lib.hid (own_ext o14_j.out hb)
            have o15_k := Lib.hid (own_ext oc_k.out hb)
            clear hb
            go_wp2_with fail
            refine (HJ3.out _ Ay Ax cy cx (Reads.of_own o15_y.out) (Reads.of_own o15_x.out)).mono ?_
            rintro e w16 ⟨Ai, ci, rfl, ho_i, hb⟩
            have s16 : w15.heap.size ≤ w16.heap.size := (by have := hb.size; (try simp at this); omega)
            have b16 := Lib.hid (ext_trans b15.out hb)
            have t16 : w.heap.size ≤ w16.heap.size := b16.out.size
            have o16_s := Lib.hid (own_ext o15_s.out hb)
            have o16_a := Lib.hid (own_ext o15_a.out hb)
            have o16_b := Lib.hid (own_ext o15_b.out hb)
            have o16_x := Lib.hid (own_ext o15_x.out hb)
            have o16_y := Lib.hid (own_ext o15_y.out hb)
            have o16_j := Lib.hid (own_ext o15_j.out hb)
            have o16_k := Lib.hid (own_ext o15_k.out hb)
            have oc_i := Lib.hid (own_base (base' := w15.heap.size + 0) ho_i (by simp))
            clear ho_i
            clear hb
            go_wp2_with fail
            refine (rTerms_same Ai Aj NJ ci cj J _ (by omega) (Reads.of_own oc_i.out) (Reads.of_own o16_j.out)).mono ?_
            rintro e w17 ⟨rfl, hb⟩
            have s17 : w16.heap.size ≤ w17.heap.size := (by have := hb.size; (try simp at this); omega)
            have b17 := Lib.hid (ext_trans b16.out hb)
            have t17 : w.heap.size ≤ w17.heap.size := b17.out.size
            have o17_s := Lib.hid (own_ext o16_s.out hb)
            have o17_a := Lib.hid (own_ext o16_a.out hb)
            have o17_b := Lib.hid (own_ext o16_b.out hb)
            have o17_x := Lib.hid (own_ext o16_x.out hb)
            have o17_y := Lib.hid (own_ext o16_y.out hb)
            have o17_j := Lib.hid (own_ext o16_j.out hb)
            have o17_k := Lib.hid (own_ext o16_k.out hb)
            have o17_i := Lib.hid (own_ext oc_i.out hb)
            clear hb
            go_wp2_with fail
            refine (drawLine_any A n c _ ((H.out.below b17.out).more b17.out.size) hn).mono ?_
            rintro e w18 ⟨r, rfl, hb⟩
            have s18 : w17.heap.size ≤ w18.heap.size := (by have := hb.size; (try simp at this); omega)
            have b18 := Lib.hid (ext_trans b17.out hb)
            have t18 : w.heap.size ≤ w18.heap.size := b18.out.size
            have o18_s := Lib.hid (own_ext o17_s.out hb)
            have o18_a := Lib.hid (own_ext o17_a.out hb)
            have o18_b := Lib.hid (own_ext o17_b.out hb)
            have o18_x := Lib.hid (own_ext o17_x.out hb)
            have o18_y := Lib.hid (own_ext o17_y.out hb)
            have o18_j := Lib.hid (own_ext o17_j.out hb)
            have o18_k := Lib.hid (own_ext o17_k.out hb)
            have o18_i := Lib.hid (own_ext o17_i.out hb)
            clear hb
            have HL1 := Lib.hid (fun (w : World) => implTermLine_any r w)
            have HL2 := Lib.hid (fun (w : World) => specTermLine_any r w)
            have HL3 := Lib.hid (fun (w : World) => isTermRow_any r w)
            obtain ⟨LL, hLL⟩ : ∃ f, lineOr r = f := ⟨_, rfl⟩
            obtain ⟨kn, hkn⟩ : ∃ f, rowB r = f := ⟨_, rfl⟩
            rw [hLL, hkn] at HL1 HL2
            rw [hkn] at HL3
            have hly := ba_yes (rfl : LL = LL)
            have hkne : (kn == kn) = true := by cases kn <;> rfl
            clear hLL hkn
            go_wp2_with fail
            refine (HL1.out _).mono ?_
            rintro e w19 ⟨rfl, hb⟩
            have s19 : w18.heap.size + 1 ≤ w19.heap.size := (by have := hb.size; (try simp at this); omega)
            have z19_0 : w18.heap.size < w19.heap.size := (by omega)
            have q19_0 : w19.cell? ⟨w18.heap.size, 0, none⟩ = some (.int .i64 r.a) := ext_cell hb (by simp [go_sem])
            have q19_1 : w19.cell? ⟨w18.heap.size, 1, none⟩ = some (.int .i64 r.b) := ext_cell hb (by simp [go_sem])
            have q19_2 : w19.cell? ⟨w18.heap.size, 2, none⟩ = some (.int .i64 r.c) := ext_cell hb (by simp [go_sem])
            have q19_3 : w19.cell? ⟨w18.heap.size, 3, none⟩ = some (.int .i64 r.d) := ext_cell hb (by simp [go_sem])
            have q19_4 : w19.cell? ⟨w18.heap.size, 4, none⟩ = some (.int .i64 r.e) := ext_cell hb (by simp [go_sem])
            have b19 := Lib.hid (ext_trans (ext_alloc b18.out _) hb)
            have t19 : w.heap.size ≤ w19.heap.size := b19.out.size
            have o19_s := Lib.hid (own_ext (o18_s.out.alloc _) hb)
            have o19_a := Lib.hid (own_ext (o18_a.out.alloc _) hb)
            have o19_b := Lib.hid (own_ext (o18_b.out.alloc _) hb)
            have o19_x := Lib.hid (own_ext (o18_x.out.alloc _) hb)
            have o19_y := Lib.hid (own_ext (o18_y.out.alloc _) hb)
            have o19_j := Lib.hid (own_ext (o18_j.out.alloc _) hb)
            have o19_k := Lib.hid (own_ext (o18_k.out.alloc _) hb)
            have o19_i := Lib.hid (own_ext (o18_i.out.alloc _) hb)
            clear hb
            go_wp2_with fail
            refine (HL2.out _).mono ?_
            rintro e w20 ⟨rfl, hb⟩
            have s20 : w19.heap.size ≤ w20.heap.size := (by have := hb.size; (try simp at this); omega)
            have z20_0 : w18.heap.size < w20.heap.size := (by omega)
            have q20_0 : w20.cell? ⟨w18.heap.size, 0, none⟩ = some (.int .i64 r.a) := ext_cell hb q19_0
            have q20_1 : w20.cell? ⟨w18.heap.size, 1, none⟩ = some (.int .i64 r.b) := ext_cell hb q19_1
            have q20_2 : w20.cell? ⟨w18.heap.size, 2, none⟩ = some (.int .i64 r.c) := ext_cell hb q19_2
            have q20_3 : w20.cell? ⟨w18.heap.size, 3, none⟩ = some (.int .i64 r.d) := ext_cell hb q19_3
            have q20_4 : w20.cell? ⟨w18.heap.size, 4, none⟩ = some (.int .i64 r.e) := ext_cell hb q19_4
            have b20 := Lib.hid (ext_trans b19.out hb)
            have t20 : w.heap.size ≤ w20.heap.size := b20.out.size
            have o20_s := Lib.hid (own_ext o19_s.out hb)
            have o20_a := Lib.hid (own_ext o19_a.out hb)
            have o20_b := Lib.hid (own_ext o19_b.out hb)
            have o20_x := Lib.hid (own_ext o19_x.out hb)
            have o20_y := Lib.hid (own_ext o19_y.out hb)
            have o20_j := Lib.hid (own_ext o19_j.out hb)
            have o20_k := Lib.hid (own_ext o19_k.out hb)
            have o20_i := Lib.hid (own_ext o19_i.out hb)
            clear q19_0 q19_1 q19_2 q19_3 q19_4
            clear hb
            go_wp2_with fail
            refine (HL3.out _).mono ?_
            rintro e w21 ⟨rfl, hb⟩
            have s21 : w20.heap.size ≤ w21.heap.size := (by have := hb.size; (try simp at this); omega)
            have z21_0 : w18.heap.size < w21.heap.size := (by omega)
            have q21_0 : w21.cell? ⟨w18.heap.size, 0, none⟩ = some (.int .i64 r.a) := ext_cell hb q20_0
            have q21_1 : w21.cell? ⟨w18.heap.size, 1, none⟩ = some (.int .i64 r.b) := ext_cell hb q20_1
            have q21_2 : w21.cell? ⟨w18.heap.size, 2, none⟩ = some (.int .i64 r.c) := ext_cell hb q20_2
            have q21_3 : w21.cell? ⟨w18.heap.size, 3, none⟩ = some (.int .i64 r.d) := ext_cell hb q20_3
            have q21_4 : w21.cell? ⟨w18.heap.size, 4, none⟩ = some (.int .i64 r.e) := ext_cell hb q20_4
            have b21 := Lib.hid (ext_trans b20.out hb)
            have t21 : w.heap.size ≤ w21.heap.size := b21.out.size
            have o21_s := Lib.hid (own_ext o20_s.out hb)
            have o21_a := Lib.hid (own_ext o20_a.out hb)
            have o21_b := Lib.hid (own_ext o20_b.out hb)
            have o21_x := Lib.hid (own_ext o20_x.out hb)
            have o21_y := Lib.hid (own_ext o20_y.out hb)
            have o21_j := Lib.hid (own_ext o20_j.out hb)
            have o21_k := Lib.hid (own_ext o20_k.out hb)
            have o21_i := Lib.hid (own_ext o20_i.out hb)
            clear q20_0 q20_1 q20_2 q20_3 q20_4
            clear hb
            go_wp2
            go_ret
            exact ⟨rfl, b21.out⟩
end Go.Proofs.Ytkgeiemelhkkcaa
