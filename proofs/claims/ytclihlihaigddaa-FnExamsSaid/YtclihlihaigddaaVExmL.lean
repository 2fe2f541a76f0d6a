/- The law FnExams, walked. -/
import Derived.IntWalk
import Derived.Test.YtclihlihaigddaaVM8
import Derived.Test.YtclihlihaigddaaVM7
import Derived.Test.YtclihlihaigddaaVM1
import Derived.Test.YtclihlihaigddaaVM6
namespace Go.Proofs.Ytclihlihaigddaa
open Go.RowKit
set_option linter.unusedVariables false
set_option linter.unusedSimpArgs false
theorem exm_case (D P Q : Int) (l : List R5) : ∀ x ∈ selB (readyR D) D P Q l, hmO D P Q l x = some 0 ∧ x ∉ selB (unpR D) D P Q l ∧ 0 ≤ P ∧ (P < 9999 → ∃ L : List R5, stpB D P Q l 4 x 70 = some (D, L, P + 1, Q)) := by
 intro x hx
 rcases hs : schB D l P Q with _ | _
 · unfold selB at hx
   rw [if_neg (by simp [hs])] at hx
   cases hx
 · obtain ⟨r, hr, hy, rfl⟩ := sel_mem hs hx
   obtain ⟨h1, h2, h3⟩ := ready_facts hs hr hy
   exact ⟨h1, h2, (schB_pa hs).1.1, fun h => by obtain ⟨L, _, hL⟩ := h3 h; exact ⟨L, hL⟩⟩
theorem gc_facts (D P Q : Int) (l : List R5) (hl : l.length ≤ 9) : (gcO D P Q l).length ≤ 11 ∧ (∀ z ∈ gcO D P Q l, 0 ≤ z ∧ z ≤ 9) ∧ (schB D l P Q = true → (gcO D P Q l).sum = (l.length : Int)) := by
 rcases hs : schB D l P Q with _ | _
 · have hE : gcO D P Q l = [] := by unfold gcO; rw [if_neg (by simp [hs])]
   rw [hE]
   refine ⟨by simp, ?_, ?_⟩
   · intro z hz; cases hz
   · intro h; cases h
 · have hE : gcO D P Q l = gcTo l l.length := by unfold gcO; rw [if_pos hs]
   rw [hE]
   obtain ⟨h1, h2, h3⟩ := gc_inv hs l.length (Nat.le_refl _)
   refine ⟨by omega, ?_, fun _ => h2⟩
   intro z hz
   have := h3 z hz
   omega
theorem selB_le (p : R5 → Bool) (day pa le : Int) (l : List R5) : (selB p day pa le l).length ≤ l.length := by
 unfold selB
 split
 · have := List.length_filter_le p l
   simp; omega
 · simp
theorem st_pair (D P Q : Int) (l : List R5) (id : Int) (hl : l.length ≤ 1048576) : ∃ (m : ByteArray) (k : Bool),
 Hid (∀ (w : World) (A : Option Addr) (c : Nat), Reads w w.heap.size 5 A l.length (rowsV l) → Calls Try.prog 80 #[schV D A l.length c P Q, .int .i64 id] w fun e w' => e = .returned (.tuple #[.string m, .bool k]) ∧ Below w.heap.size w w') ∧
 Hid (∀ (w : World) (A : Option Addr) (c : Nat), Reads w w.heap.size 5 A l.length (rowsV l) → Calls Try.prog 81 #[schV D A l.length c P Q, .int .i64 id] w fun e w' => e = .returned (.tuple #[.string m, .bool k]) ∧ Below w.heap.size w w') :=
 ⟨_, _, Lib.hid fun w A c h => implStudentText_any D P Q id A l.length c l w hl h, Lib.hid fun w A c h => specStudentText_any D P Q id A l.length c l w hl h⟩
set_option maxRecDepth 100000 in
set_option maxHeartbeats 8000000 in
theorem law_FnExams (A : Option Addr) (n c : Nat) (w : World) (h : Code w w.heap.size A n) (hn63 : n ≤ maxLen) :
 Calls Try.prog 14 #[.slice A n c] w fun e w' => e = .returned (.bool true) ∧ Below w.heap.size w w' := by
 have HV := Lib.hid (fun w => vBig_any A n c w)
 by_cases hbig : (65536 : Int) < n
 · rw [decide_eq_true hbig] at HV
   go_enter Try.func14, Try.ntmps14
   go_wp2_with (go_at_call 37; refine (HV.out _).mono ?_; rintro e w' ⟨rfl, hb⟩)
   go_ret
   exact ⟨rfl, (by repeat (first | exact ext_refl _ | assumption | refine ext_alloc ?_ _ | refine ext_drew ?_ | refine ext_drewN ?_ _ | refine ext_set ?_ (by simp <;> omega) _ | refine ext_trans ?_ (by assumption)))⟩
 · rw [decide_eq_false hbig] at HV
   have hn : n ≤ 65536 := by omega
   have H := Lib.hid h
   clear h hbig hn63
   go_enter Try.func14, Try.ntmps14
   go_wp2_with fail
   refine (HV.out _).mono ?_
   rintro e w1 ⟨rfl, hb⟩
   have s1 : w.heap.size ≤ w1.heap.size := (by have := hb.size; (try simp at this); omega)
   have b1 := Lib.hid (ext_trans (ext_refl w) hb)
   have t1 : w.heap.size ≤ w1.heap.size := b1.out.size
   clear hb
   go_wp2_with fail
   refine (drawReady_any A n c _ ((H.out.below b1.out).more b1.out.size) hn).mono ?_
   rintro e w2 ⟨D, P, Q, l, As, cs, rfl, hl9, hid, ho_s, hb⟩
   have s2 : w1.heap.size ≤ w2.heap.size := (by have := hb.size; (try simp at this); omega)
   have b2 := Lib.hid (ext_trans b1.out hb)
   have t2 : w.heap.size ≤ w2.heap.size := b2.out.size
   clear hb
   have oc_s := Lib.hid (own_base (base' := w1.heap.size + 0) ho_s (by simp))
   clear ho_s
   clear hid
   have HR1 := Lib.hid (fun (w : World) (A : Option Addr) (c : Nat) h => implReady_any D P Q A l.length c l w (by omega) h)
   have HR2 := Lib.hid (fun (w : World) (A : Option Addr) (c : Nat) h => specReady_any D P Q A l.length c l w (by omega) h)
   have HU1 := Lib.hid (fun (w : World) (A : Option Addr) (c : Nat) h => implUnp_any D P Q A l.length c l w (by omega) h)
   have HU2 := Lib.hid (fun (w : World) (A : Option Addr) (c : Nat) h => specUnp_any D P Q A l.length c l w (by omega) h)
   have HST := Lib.hid (fun x (w : World) (A : Option Addr) (c : Nat) hA h => (implStep_any D P Q 4 x 70 A l.length c l w (by omega) hA h (by omega)).mono (retUni (stpB D P Q l 4 x 70) w))
   have hcase := exm_case D P Q l
   have hNl := selB_le (readyR D) D P Q l
   have hMl := selB_le (unpR D) D P Q l
   obtain ⟨okr, hokr⟩ : ∃ okr, schB D l P Q = okr := ⟨_, rfl⟩
   obtain ⟨La, hLa⟩ : ∃ La, selB (readyR D) D P Q l = La := ⟨_, rfl⟩
   obtain ⟨Ua, hUa⟩ : ∃ Ua, selB (unpR D) D P Q l = Ua := ⟨_, rfl⟩
   rw [hokr, hLa] at HR1 HR2
   rw [hokr, hUa] at HU1 HU2
   rw [hLa, hUa] at hcase
   rw [hLa] at hNl
   rw [hUa] at hMl
   obtain ⟨N, hN⟩ : ∃ N, La.length = N := ⟨_, rfl⟩
   obtain ⟨M, hM⟩ : ∃ M, Ua.length = M := ⟨_, rfl⟩
   rw [hN] at HR1 HR2 hNl
   rw [hM] at HU1 HU2 hMl
   have HLA := Lib.hid hN
   have HCASE := Lib.hid hcase
   have hbn : (okr != okr) = false := by cases okr <;> rfl
   clear hokr hLa hUa hN hM hcase
   go_wp2_with fail
   refine (HR1.out _ As cs (Reads.of_own (oc_s.out.alloc _))).mono ?_
   rintro e w3 ⟨Aa, ca, rfl, ho_a, hb⟩
   have s3 : w2.heap.size + 1 ≤ w3.heap.size := (by have := hb.size; (try simp at this); omega)
   have z3_0 : w2.heap.size < w3.heap.size := (by omega)
   have q3_0 : w3.cell? ⟨w2.heap.size, 0, none⟩ = some (.int .i64 D) := ext_cell hb (by simp [go_sem])
   have q3_1 : w3.cell? ⟨w2.heap.size, 1, none⟩ = some (.slice As l.length cs) := ext_cell hb (by simp [go_sem])
   have q3_2 : w3.cell? ⟨w2.heap.size, 2, none⟩ = some (.int .i64 P) := ext_cell hb (by simp [go_sem])
   have q3_3 : w3.cell? ⟨w2.heap.size, 3, none⟩ = some (.int .i64 Q) := ext_cell hb (by simp [go_sem])
   have b3 := Lib.hid (ext_trans (ext_alloc b2.out _) hb)
   have t3 : w.heap.size ≤ w3.heap.size := b3.out.size
   have o3_s := Lib.hid (own_ext (oc_s.out.alloc _) hb)
   have oc_a := Lib.hid (own_base (base' := w2.heap.size + 1) ho_a (by simp))
   clear ho_a
   clear hb
   go_wp2_with fail
   refine (HR2.out _ As cs (Reads.of_own o3_s.out)).mono ?_
   rintro e w4 ⟨Ab, cb, rfl, ho_b, hb⟩
   have s4 : w3.heap.size ≤ w4.heap.size := (by have := hb.size; (try simp at this); omega)
   have z4_0 : w2.heap.size < w4.heap.size := (by omega)
   have q4_0 : w4.cell? ⟨w2.heap.size, 0, none⟩ = some (.int .i64 D) := ext_cell hb q3_0
   have q4_1 : w4.cell? ⟨w2.heap.size, 1, none⟩ = some (.slice As l.length cs) := ext_cell hb q3_1
   have q4_2 : w4.cell? ⟨w2.heap.size, 2, none⟩ = some (.int .i64 P) := ext_cell hb q3_2
   have q4_3 : w4.cell? ⟨w2.heap.size, 3, none⟩ = some (.int .i64 Q) := ext_cell hb q3_3
   have b4 := Lib.hid (ext_trans b3.out hb)
   have t4 : w.heap.size ≤ w4.heap.size := b4.out.size
   have o4_s := Lib.hid (own_ext o3_s.out hb)
   have o4_a := Lib.hid (own_ext oc_a.out hb)
   clear q3_0 q3_1 q3_2 q3_3
   have oc_b := Lib.hid (own_base (base' := w3.heap.size + 0) ho_b (by simp))
   clear ho_b
   clear hb
   go_wp2_with fail
   refine (vInts_same Aa Ab N ca cb La _ (by omega) (Reads.of_own o4_a.out) (Reads.of_own oc_b.out)).mono ?_
   rintro e w5 ⟨rfl, hb⟩
   have s5 : w4.heap.size ≤ w5.heap.size := (by have := hb.size; (try simp at this); omega)
   have z5_0 : w2.heap.size < w5.heap.size := (by omega)
   have q5_0 : w5.cell? ⟨w2.heap.size, 0, none⟩ = some (.int .i64 D) := ext_cell hb q4_0
   have q5_1 : w5.cell? ⟨w2.heap.size, 1, none⟩ = some (.slice As l.length cs) := ext_cell hb q4_1
   have q5_2 : w5.cell? ⟨w2.heap.size, 2, none⟩ = some (.int .i64 P) := ext_cell hb q4_2
   have q5_3 : w5.cell? ⟨w2.heap.size, 3, none⟩ = some (.int .i64 Q) := ext_cell hb q4_3
   have b5 := Lib.hid (ext_trans b4.out hb)
   have t5 : w.heap.size ≤ w5.heap.size := b5.out.size
   have o5_s := Lib.hid (own_ext o4_s.out hb)
   have o5_a := Lib.hid (own_ext o4_a.out hb)
   have o5_b := Lib.hid (own_ext oc_b.out hb)
   clear q4_0 q4_1 q4_2 q4_3
   clear hb
   go_wp2_with fail
   refine (HU1.out _ As cs (Reads.of_own o5_s.out)).mono ?_
   rintro e w6 ⟨Au, cu, rfl, ho_u, hb⟩
   have s6 : w5.heap.size ≤ w6.heap.size := (by have := hb.size; (try simp at this); omega)
   have z6_0 : w2.heap.size < w6.heap.size := (by omega)
   have q6_0 : w6.cell? ⟨w2.heap.size, 0, none⟩ = some (.int .i64 D) := ext_cell hb q5_0
   have q6_1 : w6.cell? ⟨w2.heap.size, 1, none⟩ = some (.slice As l.length cs) := ext_cell hb q5_1
   have q6_2 : w6.cell? ⟨w2.heap.size, 2, none⟩ = some (.int .i64 P) := ext_cell hb q5_2
   have q6_3 : w6.cell? ⟨w2.heap.size, 3, none⟩ = some (.int .i64 Q) := ext_cell hb q5_3
   have b6 := Lib.hid (ext_trans b5.out hb)
   have t6 : w.heap.size ≤ w6.heap.size := b6.out.size
   have o6_s := Lib.hid (own_ext o5_s.out hb)
   have o6_a := Lib.hid (own_ext o5_a.out hb)
   have o6_b := Lib.hid (own_ext o5_b.out hb)
   clear q5_0 q5_1 q5_2 q5_3
   have oc_u := Lib.hid (own_base (base' := w5.heap.size + 0) ho_u (by simp))
   clear ho_u
   clear hb
   go_wp2_with fail
   refine (HU2.out _ As cs (Reads.of_own o6_s.out)).mono ?_
   rintro e w7 ⟨Av, cv, rfl, ho_v, hb⟩
   have s7 : w6.heap.size ≤ w7.heap.size := (by have := hb.size; (try simp at this); omega)
   have z7_0 : w2.heap.size < w7.heap.size := (by omega)
   have q7_0 : w7.cell? ⟨w2.heap.size, 0, none⟩ = some (.int .i64 D) := ext_cell hb q6_0
   have q7_1 : w7.cell? ⟨w2.heap.size, 1, none⟩ = some (.slice As l.length cs) := ext_cell hb q6_1
   have q7_2 : w7.cell? ⟨w2.heap.size, 2, none⟩ = some (.int .i64 P) := ext_cell hb q6_2
   have q7_3 : w7.cell? ⟨w2.heap.size, 3, none⟩ = some (.int .i64 Q) := ext_cell hb q6_3
   have b7 := Lib.hid (ext_trans b6.out hb)
   have t7 : w.heap.size ≤ w7.heap.size := b7.out.size
   have o7_s := Lib.hid (own_ext o6_s.out hb)
   have o7_a := Lib.hid (own_ext o6_a.out hb)
   have o7_b := Lib.hid (own_ext o6_b.out hb)
   have o7_u := Lib.hid (own_ext oc_u.out hb)
   clear q6_0 q6_1 q6_2 q6_3
   have oc_v := Lib.hid (own_base (base' := w6.heap.size + 0) ho_v (by simp))
   clear ho_v
   clear hb
   go_wp2_with fail
   refine (vInts_same Au Av M cu cv Ua _ (by omega) (Reads.of_own o7_u.out) (Reads.of_own oc_v.out)).mono ?_
   rintro e w8 ⟨rfl, hb⟩
   have s8 : w7.heap.size ≤ w8.heap.size := (by have := hb.size; (try simp at this); omega)
   have z8_0 : w2.heap.size < w8.heap.size := (by omega)
   have q8_0 : w8.cell? ⟨w2.heap.size, 0, none⟩ = some (.int .i64 D) := ext_cell hb q7_0
   have q8_1 : w8.cell? ⟨w2.heap.size, 1, none⟩ = some (.slice As l.length cs) := ext_cell hb q7_1
   have q8_2 : w8.cell? ⟨w2.heap.size, 2, none⟩ = some (.int .i64 P) := ext_cell hb q7_2
   have q8_3 : w8.cell? ⟨w2.heap.size, 3, none⟩ = some (.int .i64 Q) := ext_cell hb q7_3
   have b8 := Lib.hid (ext_trans b7.out hb)
   have t8 : w.heap.size ≤ w8.heap.size := b8.out.size
   have o8_s := Lib.hid (own_ext o7_s.out hb)
   have o8_a := Lib.hid (own_ext o7_a.out hb)
   have o8_b := Lib.hid (own_ext o7_b.out hb)
   have o8_u := Lib.hid (own_ext o7_u.out hb)
   have o8_v := Lib.hid (own_ext oc_v.out hb)
   clear q7_0 q7_1 q7_2 q7_3
   clear hb
   go_wp2_with fail
   go_loopw [12] (fun i wr => ∃ k : Nat, k ≤ N ∧ i = .int .i64 k ∧ Hid (Below w8.heap.size w8 wr)) (fun i _ => N - (intOf i).toNat)
   case atStart => exact ⟨0, Nat.zero_le _, rfl, Lib.hid (ext_refl _)⟩
   case round =>
    obtain ⟨k, hk, rfl, hbl⟩ := hrel
    by_cases hlt : k < N
    · have hos := Lib.hid (own_ext o8_s.out hbl.out)
      have hou := Lib.hid (own_ext o8_u.out hbl.out)
      have hoa := Lib.hid (own_ext o8_a.out hbl.out)
      have hss := hbl.out.size
      have zB : w2.heap.size < wr.heap.size := by omega
      obtain ⟨x, hx⟩ := list_split (l := La) (k := k) (by rw [HLA.out]; exact hlt)
      obtain ⟨hh, hu, hP0, hst⟩ := HCASE.out x (List.mem_of_getElem? hx)
      obtain ⟨b1, o1, hA1, hb1, a0⟩ := ints_at (Reads.of_own hoa.out) hx
      subst hA1
      have v0 : wr.cell? ⟨w2.heap.size, 0, none⟩ = some (.int .i64 D) := ext_cell hbl.out q8_0
      have v1 : wr.cell? ⟨w2.heap.size, 1, none⟩ = some (.slice As l.length cs) := ext_cell hbl.out q8_1
      have v2 : wr.cell? ⟨w2.heap.size, 2, none⟩ = some (.int .i64 P) := ext_cell hbl.out q8_2
      have v3 : wr.cell? ⟨w2.heap.size, 3, none⟩ = some (.int .i64 Q) := ext_cell hbl.out q8_3
      have hk1 : (k : Int) < (N : Int) := by omega
      have hk0 : (0 : Int) ≤ (k : Int) := by omega
      have HXU := Lib.hid hu
      have HHM := Lib.hid (fun (m : Later wr) => (show Calls Try.prog 61 #[schV D As l.length cs P Q, .int .i64 x] m.world (fun e w' => e = .returned (.tuple #[.int .i64 0, .bool true]) ∧ Below m.world.heap.size m.world w') from by have := implHours_any D P Q x As l.length cs l m.world (by omega) (Reads.of_own (own_ext hos.out m.h)); rw [hh] at this; exact this))
      clear hx hh hu
      go_wp2_with fail
      (refine wp_region_later (by kernel_rfl) (by kernel_rfl) ?_; (repeat (go_big_quiet_step ((go_at_call 61; with_reducible exact Calls.later_of (HHM.out _))))); refine wpQuiet_nil ?_; intro wA hw1; obtain ⟨⟨wl, hb⟩, hw1'⟩ := hw1; simp only at hw1'; subst hw1')
      have hbA := Lib.hid (ext_trans hbl.out hb)
      have hosA := Lib.hid (own_ext hos.out hb)
      have houA := Lib.hid (own_ext hou.out hb)
      have zA := hb.size
      have hb1A : b1 < wA.heap.size := by omega
      have a0A := ext_cell hb a0
      have va0 : wA.cell? ⟨w2.heap.size, 0, none⟩ = some (.int .i64 D) := ext_cell hb v0
      have va1 : wA.cell? ⟨w2.heap.size, 1, none⟩ = some (.slice As l.length cs) := ext_cell hb v1
      have va2 : wA.cell? ⟨w2.heap.size, 2, none⟩ = some (.int .i64 P) := ext_cell hb v2
      have va3 : wA.cell? ⟨w2.heap.size, 3, none⟩ = some (.int .i64 Q) := ext_cell hb v3
      clear hb a0 v0 v1 v2 v3
      go_wp2_with fail
      refine (vHas_no Au M cu Ua x _ (by omega) (Reads.of_own houA.out) HXU.out).mono ?_
      rintro e wB ⟨rfl, hb⟩
      have hbB := Lib.hid (ext_trans hbA.out hb)
      have hosB := Lib.hid (own_ext hosA.out hb)
      have zB2 := hb.size
      have hb1B : b1 < wB.heap.size := by omega
      have zBB : w2.heap.size < wB.heap.size := by omega
      have a0B := ext_cell hb a0A
      have vb0 : wB.cell? ⟨w2.heap.size, 0, none⟩ = some (.int .i64 D) := ext_cell hb va0
      have vb1 : wB.cell? ⟨w2.heap.size, 1, none⟩ = some (.slice As l.length cs) := ext_cell hb va1
      have vb2 : wB.cell? ⟨w2.heap.size, 2, none⟩ = some (.int .i64 P) := ext_cell hb va2
      have vb3 : wB.cell? ⟨w2.heap.size, 3, none⟩ = some (.int .i64 Q) := ext_cell hb va3
      clear hb a0A va0 va1 va2 va3
      by_cases hp : P < 9999
      · obtain ⟨L, hL⟩ := hst hp
        have HS1 := Lib.hid (fun (w : World) (A : Option Addr) (c : Nat) hA h => HST.out x w A c hA h)
        rw [hL] at HS1
        have HS1 := Lib.hid (show ∀ (w : World) (A : Option Addr) (c : Nat), SlOk A l.length c → Reads w w.heap.size 5 A l.length (rowsV l) → Calls Try.prog 47 #[schV D A l.length c P Q, .agg #[.int .i64 4, .int .i64 x, .int .i64 70]] w (RetUni D (P + 1) Q L.length L true w) from HS1.out)
        have hslB := slOk_own hosB.out
        have hPw : IntKind.i64.wrap (P + 1) = P + 1 := IntWalk.i64_in _ (by omega)
        clear hst hL
        go_upto_region 19 with fail
        go_cut [15, 16] (fun s15 s16 wx => s16 = .bool true ∧ ∃ gN, s15 = .pointer (some ⟨gN, 0, none⟩) ∧ wx.cell? ⟨gN, 2, none⟩ = some (.int .i64 (P + 1)) ∧ Below wB.heap.size wB wx)
        case first =>
         go_region_held3 (fun w' => w'.cell? ⟨w2.heap.size, 0, none⟩ = some (.int .i64 D) ∧ w'.cell? ⟨w2.heap.size, 1, none⟩ = some (.slice As l.length cs) ∧ w'.cell? ⟨w2.heap.size, 2, none⟩ = some (.int .i64 P) ∧ w'.cell? ⟨w2.heap.size, 3, none⟩ = some (.int .i64 Q) ∧ w'.cell? ⟨b1, o1 + k, none⟩ = some (.int .i64 x)) (first | (go_split_ands; ((repeat' refine And.intro ?_ ?_) <;> with_reducible (repeat (first | assumption | refine cell_drew ?_ | refine cell_old ?_ _ | refine ext_cell hb ?_ | refine cell_set_far (by first | (show wB.heap.size ≠ w2.heap.size; omega) | (show wB.heap.size ≠ b1; omega)) ?_))))) (first | (go_at_call 47; refine (HS1.out wB.drew As cs hslB (Reads.of_own (World.ownsRow.drew hosB.out))).mono ?_; rintro e wC ⟨A4, c4, rfl, ho4, hb⟩; obtain ⟨hcC, hfC⟩ := bcell hb; have zC := hb.size; (try simp at zC)) | (go_at_call 47; refine (HS1.out (wB.drew.alloc (.cells #[.int .i64 0, .slice none 0 0, .int .i64 0, .int .i64 0] 24)) As cs hslB (Reads.of_own ((World.ownsRow.drew hosB.out).alloc _))).mono ?_; rintro e wC ⟨A4, c4, rfl, ho4, hb⟩; obtain ⟨hcC, hfC⟩ := bcell hb; have zC := hb.size; (try simp at zC)) | (go_at_call 47; refine (HS1.out ((wB.alloc (.cells #[.int .i64 0, .slice none 0 0, .int .i64 0, .int .i64 0] 24)).drew) As cs hslB (Reads.of_own (World.ownsRow.drew (hosB.out.alloc _)))).mono ?_; rintro e wC ⟨A4, c4, rfl, ho4, hb⟩; obtain ⟨hcC, hfC⟩ := bcell hb; have zC := hb.size; (try simp at zC)))
         all_goals (go_wp2_with fail; go_meet; refine ⟨rfl, _, rfl, ?_, ?_⟩)
         all_goals first
          | (simp [go_sem, *]; done)
          | (with_reducible refine ext_alloc ?_ _; exact ext_trans (ext_drew (ext_refl _)) hb)
          | (iterate 4 with_reducible refine ext_set ?_ (Nat.le_refl _) _
             first | exact ext_trans (ext_drew (ext_alloc (ext_refl _) _)) hb | exact ext_trans (ext_alloc (ext_drew (ext_refl _)) _) hb)
        case rest =>
         obtain ⟨rfl, gN, rfl, n2, hb⟩ := hcut
         have hbD := Lib.hid (ext_trans hbB.out hb)
         have vc0 : wc.cell? ⟨w2.heap.size, 0, none⟩ = some (.int .i64 D) := ext_cell hb vb0
         have vc1 : wc.cell? ⟨w2.heap.size, 1, none⟩ = some (.slice As l.length cs) := ext_cell hb vb1
         have vc2 : wc.cell? ⟨w2.heap.size, 2, none⟩ = some (.int .i64 P) := ext_cell hb vb2
         have vc3 : wc.cell? ⟨w2.heap.size, 3, none⟩ = some (.int .i64 Q) := ext_cell hb vb3
         clear hb vb0 vb1 vb2 vb3 a0B
         go_wp2
         go_roundw
         case rel => exact ⟨k + 1, by omega, by go_num, hbD⟩
         case measure => simp [intOf]; omega
      · clear hst
        go_wp2
        go_roundw
        case rel => exact ⟨k + 1, by omega, by go_num, hbB⟩
        case measure => simp [intOf]; omega
    · obtain rfl : N = k := by omega
      obtain ⟨w9, hw9⟩ : ∃ x : World, x = wr := ⟨_, rfl⟩
      subst hw9
      have hb := hbl.out
      have s9 : w8.heap.size ≤ w9.heap.size := (by have := hb.size; (try simp at this); omega)
      have z9_0 : w2.heap.size < w9.heap.size := (by omega)
      have q9_0 : w9.cell? ⟨w2.heap.size, 0, none⟩ = some (.int .i64 D) := ext_cell hb q8_0
      have q9_1 : w9.cell? ⟨w2.heap.size, 1, none⟩ = some (.slice As l.length cs) := ext_cell hb q8_1
      have q9_2 : w9.cell? ⟨w2.heap.size, 2, none⟩ = some (.int .i64 P) := ext_cell hb q8_2
      have q9_3 : w9.cell? ⟨w2.heap.size, 3, none⟩ = some (.int .i64 Q) := ext_cell hb q8_3
      have b9 := Lib.hid (ext_trans b8.out hb)
      have t9 : w.heap.size ≤ w9.heap.size := b9.out.size
      have o9_s := Lib.hid (own_ext o8_s.out hb)
      have o9_a := Lib.hid (own_ext o8_a.out hb)
      have o9_b := Lib.hid (own_ext o8_b.out hb)
      have o9_u := Lib.hid (own_ext o8_u.out hb)
      have o9_v := Lib.hid (own_ext o8_v.out hb)
      clear q8_0 q8_1 q8_2 q8_3
      clear hb hbl
      go_wp2_with fail
      refine (drawGc_any A n c _ ((H.out.below b9.out).more b9.out.size) hn).mono ?_
      rintro e w10 ⟨D2, P2, Q2, l2, At, ct, rfl, hl92, hid2, ho_t, hb⟩
      have s10 : w9.heap.size ≤ w10.heap.size := (by have := hb.size; (try simp at this); omega)
      have z10_0 : w2.heap.size < w10.heap.size := (by omega)
      have q10_0 : w10.cell? ⟨w2.heap.size, 0, none⟩ = some (.int .i64 D) := ext_cell hb q9_0
      have q10_1 : w10.cell? ⟨w2.heap.size, 1, none⟩ = some (.slice As l.length cs) := ext_cell hb q9_1
      have q10_2 : w10.cell? ⟨w2.heap.size, 2, none⟩ = some (.int .i64 P) := ext_cell hb q9_2
      have q10_3 : w10.cell? ⟨w2.heap.size, 3, none⟩ = some (.int .i64 Q) := ext_cell hb q9_3
      have b10 := Lib.hid (ext_trans b9.out hb)
      have t10 : w.heap.size ≤ w10.heap.size := b10.out.size
      have o10_s := Lib.hid (own_ext o9_s.out hb)
      have o10_a := Lib.hid (own_ext o9_a.out hb)
      have o10_b := Lib.hid (own_ext o9_b.out hb)
      have o10_u := Lib.hid (own_ext o9_u.out hb)
      have o10_v := Lib.hid (own_ext o9_v.out hb)
      clear q9_0 q9_1 q9_2 q9_3
      clear hb
      have oc_t := Lib.hid (own_base (base' := w9.heap.size + 0) ho_t (by simp))
      clear ho_t
      clear hid2
      have HG1 := Lib.hid (fun (w : World) (A : Option Addr) (c : Nat) h => implGc_any D2 P2 Q2 A l2.length c l2 w (by omega) h)
      have HG2 := Lib.hid (fun (w : World) (A : Option Addr) (c : Nat) h => specGc_any D2 P2 Q2 A l2.length c l2 w (by omega) h)
      obtain ⟨hgl, hgz, hgs⟩ := gc_facts D2 P2 Q2 l2 hl92
      obtain ⟨okg, hokg⟩ : ∃ okg, schB D2 l2 P2 Q2 = okg := ⟨_, rfl⟩
      obtain ⟨G, hG⟩ : ∃ G, gcO D2 P2 Q2 l2 = G := ⟨_, rfl⟩
      rw [hokg, hG] at HG1 HG2
      rw [hG] at hgl hgz
      rw [hokg, hG] at hgs
      obtain ⟨NG, hNG⟩ : ∃ NG, G.length = NG := ⟨_, rfl⟩
      rw [hNG] at HG1 HG2 hgl
      obtain ⟨SM, hSM⟩ : ∃ SM, G.sum = SM := ⟨_, rfl⟩
      rw [hSM] at hgs
      have HGZ := Lib.hid hgz
      have HSM := Lib.hid hSM
      have HGS := Lib.hid hgs
      have hbg : (okg != okg) = false := by cases okg <;> rfl
      clear hokg hG hNG hSM hgz hgs
      go_wp2_with fail
      refine (HG1.out _ At ct (Reads.of_own (oc_t.out.alloc _))).mono ?_
      rintro e w11 ⟨Ag, cg, rfl, ho_g, hb⟩
      have s11 : w10.heap.size + 1 ≤ w11.heap.size := (by have := hb.size; (try simp at this); omega)
      have z11_0 : w2.heap.size < w11.heap.size := (by omega)
      have z11_1 : w10.heap.size < w11.heap.size := (by omega)
      have q11_0 : w11.cell? ⟨w2.heap.size, 0, none⟩ = some (.int .i64 D) := ext_cell hb (cell_old q10_0 _)
      have q11_1 : w11.cell? ⟨w2.heap.size, 1, none⟩ = some (.slice As l.length cs) := ext_cell hb (cell_old q10_1 _)
      have q11_2 : w11.cell? ⟨w2.heap.size, 2, none⟩ = some (.int .i64 P) := ext_cell hb (cell_old q10_2 _)
      have q11_3 : w11.cell? ⟨w2.heap.size, 3, none⟩ = some (.int .i64 Q) := ext_cell hb (cell_old q10_3 _)
      have q11_4 : w11.cell? ⟨w10.heap.size, 0, none⟩ = some (.int .i64 D2) := ext_cell hb (by simp [go_sem])
      have q11_5 : w11.cell? ⟨w10.heap.size, 1, none⟩ = some (.slice At l2.length ct) := ext_cell hb (by simp [go_sem])
      have q11_6 : w11.cell? ⟨w10.heap.size, 2, none⟩ = some (.int .i64 P2) := ext_cell hb (by simp [go_sem])
      have q11_7 : w11.cell? ⟨w10.heap.size, 3, none⟩ = some (.int .i64 Q2) := ext_cell hb (by simp [go_sem])
      have b11 := Lib.hid (ext_trans (ext_alloc b10.out _) hb)
      have t11 : w.heap.size ≤ w11.heap.size := b11.out.size
      have o11_s := Lib.hid (own_ext (o10_s.out.alloc _) hb)
      have o11_a := Lib.hid (own_ext (o10_a.out.alloc _) hb)
      have o11_b := Lib.hid (own_ext (o10_b.out.alloc _) hb)
      have o11_u := Lib.hid (own_ext (o10_u.out.alloc _) hb)
      have o11_v := Lib.hid (own_ext (o10_v.out.alloc _) hb)
      have o11_t := Lib.hid (own_ext (oc_t.out.alloc _) hb)
      clear q10_0 q10_1 q10_2 q10_3
      have oc_g := Lib.hid (own_base (base' := w10.heap.size + 1) ho_g (by simp))
      clear ho_g
      clear hb
      go_wp2_with fail
      refine (HG2.out _ At ct (Reads.of_own o11_t.out)).mono ?_
      rintro e w12 ⟨Ae, ce, rfl, ho_e, hb⟩
      have s12 : w11.heap.size ≤ w12.heap.size := (by have := hb.size; (try simp at this); omega)
      have z12_0 : w2.heap.size < w12.heap.size := (by omega)
      have z12_1 : w10.heap.size < w12.heap.size := (by omega)
      have q12_0 : w12.cell? ⟨w2.heap.size, 0, none⟩ = some (.int .i64 D) := ext_cell hb q11_0
      have q12_1 : w12.cell? ⟨w2.heap.size, 1, none⟩ = some (.slice As l.length cs) := ext_cell hb q11_1
      have q12_2 : w12.cell? ⟨w2.heap.size, 2, none⟩ = some (.int .i64 P) := ext_cell hb q11_2
      have q12_3 : w12.cell? ⟨w2.heap.size, 3, none⟩ = some (.int .i64 Q) := ext_cell hb q11_3
      have q12_4 : w12.cell? ⟨w10.heap.size, 0, none⟩ = some (.int .i64 D2) := ext_cell hb q11_4
      have q12_5 : w12.cell? ⟨w10.heap.size, 1, none⟩ = some (.slice At l2.length ct) := ext_cell hb q11_5
      have q12_6 : w12.cell? ⟨w10.heap.size, 2, none⟩ = some (.int .i64 P2) := ext_cell hb q11_6
      have q12_7 : w12.cell? ⟨w10.heap.size, 3, none⟩ = some (.int .i64 Q2) := ext_cell hb q11_7
      have b12 := Lib.hid (ext_trans b11.out hb)
      have t12 : w.heap.size ≤ w12.heap.size := b12.out.size
      have o12_s := Lib.hid (own_ext o11_s.out hb)
      have o12_a := Lib.hid (own_ext o11_a.out hb)
      have o12_b := Lib.hid (own_ext o11_b.out hb)
      have o12_u := Lib.hid (own_ext o11_u.out hb)
      have o12_v := Lib.hid (own_ext o11_v.out hb)
      have o12_t := Lib.hid (own_ext o11_t.out hb)
      have o12_g := Lib.hid (own_ext oc_g.out hb)
      clear q11_0 q11_1 q11_2 q11_3 q11_4 q11_5 q11_6 q11_7
      have oc_e := Lib.hid (own_base (base' := w11.heap.size + 0) ho_e (by simp))
      clear ho_e
      clear hb
      have HV1 := Lib.hid (fun (m : Later w12) => vInts_same Ag Ae NG cg ce G m.world (by omega) (Reads.of_own (own_ext o12_g.out m.h)) (Reads.of_own (own_ext oc_e.out m.h)))
      have HV2 := Lib.hid (fun (m : Later w12) => vSum_any Ag NG cg G 9 m.world (by omega) (by decide) HGZ.out (Reads.of_own (own_ext o12_g.out m.h)))
      rw [HSM.out] at HV2
      have hs9 : okg = true → SM = (l2.length : Int) := HGS.out
      rcases okg with _ | _
      all_goals
       try (have h9 := hs9 rfl; subst h9)
       clear hs9
       go_wp2_with fail
       (refine wp_region_later (by kernel_rfl) (by kernel_rfl) ?_; (repeat (go_big_quiet_step (first | (go_at_call 69; with_reducible exact Calls.later_of (HV1.out _)) | (go_at_call 76; with_reducible exact Calls.later_of (HV2.out _))))); refine wpQuiet_nil ?_; intro w13 hw1; obtain ⟨⟨wl, hb⟩, hw1'⟩ := hw1; simp only at hw1'; subst hw1')
       have s13 : w12.heap.size ≤ w13.heap.size := (by have := hb.size; (try simp at this); omega)
       have z13_0 : w2.heap.size < w13.heap.size := (by omega)
       have z13_1 : w10.heap.size < w13.heap.size := (by omega)
       have q13_0 : w13.cell? ⟨w2.heap.size, 0, none⟩ = some (.int .i64 D) := ext_cell hb q12_0
       have q13_1 : w13.cell? ⟨w2.heap.size, 1, none⟩ = some (.slice As l.length cs) := ext_cell hb q12_1
       have q13_2 : w13.cell? ⟨w2.heap.size, 2, none⟩ = some (.int .i64 P) := ext_cell hb q12_2
       have q13_3 : w13.cell? ⟨w2.heap.size, 3, none⟩ = some (.int .i64 Q) := ext_cell hb q12_3
       have q13_4 : w13.cell? ⟨w10.heap.size, 0, none⟩ = some (.int .i64 D2) := ext_cell hb q12_4
       have q13_5 : w13.cell? ⟨w10.heap.size, 1, none⟩ = some (.slice At l2.length ct) := ext_cell hb q12_5
       have q13_6 : w13.cell? ⟨w10.heap.size, 2, none⟩ = some (.int .i64 P2) := ext_cell hb q12_6
       have q13_7 : w13.cell? ⟨w10.heap.size, 3, none⟩ = some (.int .i64 Q2) := ext_cell hb q12_7
       have b13 := Lib.hid (ext_trans b12.out hb)
       have t13 : w.heap.size ≤ w13.heap.size := b13.out.size
       have o13_s := Lib.hid (own_ext o12_s.out hb)
       have o13_a := Lib.hid (own_ext o12_a.out hb)
       have o13_b := Lib.hid (own_ext o12_b.out hb)
       have o13_u := Lib.hid (own_ext o12_u.out hb)
       have o13_v := Lib.hid (own_ext o12_v.out hb)
       have o13_t := Lib.hid (own_ext o12_t.out hb)
       have o13_g := Lib.hid (own_ext o12_g.out hb)
       have o13_e := Lib.hid (own_ext oc_e.out hb)
       clear q12_0 q12_1 q12_2 q12_3 q12_4 q12_5 q12_6 q12_7
       clear hb
       go_wp2_with fail
       refine (drawHm_any A n c _ ((H.out.below b13.out).more b13.out.size) hn).mono ?_
       rintro e w14 ⟨D3, P3, Q3, l3, Ay, cy, id3, rfl, hl93, ho_y, hb⟩
       have s14 : w13.heap.size ≤ w14.heap.size := (by have := hb.size; (try simp at this); omega)
       have z14_0 : w2.heap.size < w14.heap.size := (by omega)
       have z14_1 : w10.heap.size < w14.heap.size := (by omega)
       have q14_0 : w14.cell? ⟨w2.heap.size, 0, none⟩ = some (.int .i64 D) := ext_cell hb q13_0
       have q14_1 : w14.cell? ⟨w2.heap.size, 1, none⟩ = some (.slice As l.length cs) := ext_cell hb q13_1
       have q14_2 : w14.cell? ⟨w2.heap.size, 2, none⟩ = some (.int .i64 P) := ext_cell hb q13_2
       have q14_3 : w14.cell? ⟨w2.heap.size, 3, none⟩ = some (.int .i64 Q) := ext_cell hb q13_3
       have q14_4 : w14.cell? ⟨w10.heap.size, 0, none⟩ = some (.int .i64 D2) := ext_cell hb q13_4
       have q14_5 : w14.cell? ⟨w10.heap.size, 1, none⟩ = some (.slice At l2.length ct) := ext_cell hb q13_5
       have q14_6 : w14.cell? ⟨w10.heap.size, 2, none⟩ = some (.int .i64 P2) := ext_cell hb q13_6
       have q14_7 : w14.cell? ⟨w10.heap.size, 3, none⟩ = some (.int .i64 Q2) := ext_cell hb q13_7
       have b14 := Lib.hid (ext_trans b13.out hb)
       have t14 : w.heap.size ≤ w14.heap.size := b14.out.size
       have o14_s := Lib.hid (own_ext o13_s.out hb)
       have o14_a := Lib.hid (own_ext o13_a.out hb)
       have o14_b := Lib.hid (own_ext o13_b.out hb)
       have o14_u := Lib.hid (own_ext o13_u.out hb)
       have o14_v := Lib.hid (own_ext o13_v.out hb)
       have o14_t := Lib.hid (own_ext o13_t.out hb)
       have o14_g := Lib.hid (own_ext o13_g.out hb)
       have o14_e := Lib.hid (own_ext o13_e.out hb)
       clear q13_0 q13_1 q13_2 q13_3 q13_4 q13_5 q13_6 q13_7
       clear hb
       have oc_y := Lib.hid (own_base (base' := w13.heap.size + 0) ho_y (by simp))
       clear ho_y
       have HM1 := Lib.hid (fun (w : World) (A : Option Addr) (c : Nat) h => implHours_any D3 P3 Q3 id3 A l3.length c l3 w (by omega) h)
       have HM2 := Lib.hid (fun (w : World) (A : Option Addr) (c : Nat) h => specHours_any D3 P3 Q3 id3 A l3.length c l3 w (by omega) h)
       unfold ParRet at HM1 HM2
       obtain ⟨m3, hm3⟩ : ∃ m3, (hmO D3 P3 Q3 l3 id3).getD 0 = m3 := ⟨_, rfl⟩
       obtain ⟨k3, hk3⟩ : ∃ k3, (hmO D3 P3 Q3 l3 id3).isSome = k3 := ⟨_, rfl⟩
       rw [hm3, hk3] at HM1 HM2
       have hbk : (k3 != k3) = false := by cases k3 <;> rfl
       clear hm3 hk3
       go_wp2_with fail
       refine (HM1.out _ Ay cy (Reads.of_own (oc_y.out.alloc _))).mono ?_
       rintro e w15 ⟨rfl, hb⟩
       have s15 : w14.heap.size + 1 ≤ w15.heap.size := (by have := hb.size; (try simp at this); omega)
       have z15_0 : w2.heap.size < w15.heap.size := (by omega)
       have z15_1 : w10.heap.size < w15.heap.size := (by omega)
       have z15_2 : w14.heap.size < w15.heap.size := (by omega)
       have q15_0 : w15.cell? ⟨w2.heap.size, 0, none⟩ = some (.int .i64 D) := ext_cell hb (cell_old q14_0 _)
       have q15_1 : w15.cell? ⟨w2.heap.size, 1, none⟩ = some (.slice As l.length cs) := ext_cell hb (cell_old q14_1 _)
       have q15_2 : w15.cell? ⟨w2.heap.size, 2, none⟩ = some (.int .i64 P) := ext_cell hb (cell_old q14_2 _)
       have q15_3 : w15.cell? ⟨w2.heap.size, 3, none⟩ = some (.int .i64 Q) := ext_cell hb (cell_old q14_3 _)
       have q15_4 : w15.cell? ⟨w10.heap.size, 0, none⟩ = some (.int .i64 D2) := ext_cell hb (cell_old q14_4 _)
       have q15_5 : w15.cell? ⟨w10.heap.size, 1, none⟩ = some (.slice At l2.length ct) := ext_cell hb (cell_old q14_5 _)
       have q15_6 : w15.cell? ⟨w10.heap.size, 2, none⟩ = some (.int .i64 P2) := ext_cell hb (cell_old q14_6 _)
       have q15_7 : w15.cell? ⟨w10.heap.size, 3, none⟩ = some (.int .i64 Q2) := ext_cell hb (cell_old q14_7 _)
       have q15_8 : w15.cell? ⟨w14.heap.size, 0, none⟩ = some (.int .i64 D3) := ext_cell hb (by simp [go_sem])
       have q15_9 : w15.cell? ⟨w14.heap.size, 1, none⟩ = some (.slice Ay l3.length cy) := ext_cell hb (by simp [go_sem])
       have q15_10 : w15.cell? ⟨w14.heap.size, 2, none⟩ = some (.int .i64 P3) := ext_cell hb (by simp [go_sem])
       have q15_11 : w15.cell? ⟨w14.heap.size, 3, none⟩ = some (.int .i64 Q3) := ext_cell hb (by simp [go_sem])
       have b15 := Lib.hid (ext_trans (ext_alloc b14.out _) hb)
       have t15 : w.heap.size ≤ w15.heap.size := b15.out.size
       have o15_s := Lib.hid (own_ext (o14_s.out.alloc _) hb)
       have o15_a := Lib.hid (own_ext (o14_a.out.alloc _) hb)
       have o15_b := Lib.hid (own_ext (o14_b.out.alloc _) hb)
       have o15_u := Lib.hid (own_ext (o14_u.out.alloc _) hb)
       have o15_v := Lib.hid (own_ext (o14_v.out.alloc _) hb)
       have o15_t := Lib.hid (own_ext (o14_t.out.alloc _) hb)
       have o15_g := Lib.hid (own_ext (o14_g.out.alloc _) hb)
       have o15_e := Lib.hid (own_ext (o14_e.out.alloc _) hb)
       have o15_y := Lib.hid (own_ext (oc_y.out.alloc _) hb)
       clear q14_0 q14_1 q14_2 q14_3 q14_4 q14_5 q14_6 q14_7
       clear hb
       go_wp2_with fail
       refine (HM2.out _ Ay cy (Reads.of_own o15_y.out)).mono ?_
       rintro e w16 ⟨rfl, hb⟩
       have s16 : w15.heap.size ≤ w16.heap.size := (by have := hb.size; (try simp at this); omega)
       have z16_0 : w2.heap.size < w16.heap.size := (by omega)
       have z16_1 : w10.heap.size < w16.heap.size := (by omega)
       have z16_2 : w14.heap.size < w16.heap.size := (by omega)
       have q16_0 : w16.cell? ⟨w2.heap.size, 0, none⟩ = some (.int .i64 D) := ext_cell hb q15_0
       have q16_1 : w16.cell? ⟨w2.heap.size, 1, none⟩ = some (.slice As l.length cs) := ext_cell hb q15_1
       have q16_2 : w16.cell? ⟨w2.heap.size, 2, none⟩ = some (.int .i64 P) := ext_cell hb q15_2
       have q16_3 : w16.cell? ⟨w2.heap.size, 3, none⟩ = some (.int .i64 Q) := ext_cell hb q15_3
       have q16_4 : w16.cell? ⟨w10.heap.size, 0, none⟩ = some (.int .i64 D2) := ext_cell hb q15_4
       have q16_5 : w16.cell? ⟨w10.heap.size, 1, none⟩ = some (.slice At l2.length ct) := ext_cell hb q15_5
       have q16_6 : w16.cell? ⟨w10.heap.size, 2, none⟩ = some (.int .i64 P2) := ext_cell hb q15_6
       have q16_7 : w16.cell? ⟨w10.heap.size, 3, none⟩ = some (.int .i64 Q2) := ext_cell hb q15_7
       have q16_8 : w16.cell? ⟨w14.heap.size, 0, none⟩ = some (.int .i64 D3) := ext_cell hb q15_8
       have q16_9 : w16.cell? ⟨w14.heap.size, 1, none⟩ = some (.slice Ay l3.length cy) := ext_cell hb q15_9
       have q16_10 : w16.cell? ⟨w14.heap.size, 2, none⟩ = some (.int .i64 P3) := ext_cell hb q15_10
       have q16_11 : w16.cell? ⟨w14.heap.size, 3, none⟩ = some (.int .i64 Q3) := ext_cell hb q15_11
       have b16 := Lib.hid (ext_trans b15.out hb)
       have t16 : w.heap.size ≤ w16.heap.size := b16.out.size
       have o16_s := Lib.hid (own_ext o15_s.out hb)
       have o16_a := Lib.hid (own_ext o15_a.out hb)
       have o16_b := Lib.hid (own_ext o15_b.out hb)
       have o16_u := Lib.hid (own_ext o15_u.out hb)
       have o16_v := Lib.hid (own_ext o15_v.out hb)
       have o16_t := Lib.hid (own_ext o15_t.out hb)
       have o16_g := Lib.hid (own_ext o15_g.out hb)
       have o16_e := Lib.hid (own_ext o15_e.out hb)
       have o16_y := Lib.hid (own_ext o15_y.out hb)
       clear q15_0 q15_1 q15_2 q15_3 q15_4 q15_5 q15_6 q15_7 q15_8 q15_9 q15_10 q15_11
       clear hb
       go_wp2_with fail
       refine (drawSt_any A n c _ ((H.out.below b16.out).more b16.out.size) hn).mono ?_
       rintro e w17 ⟨D4, P4, Q4, l4, Az, cz, id4, rfl, hl94, ho_z, hb⟩
       have s17 : w16.heap.size ≤ w17.heap.size := (by have := hb.size; (try simp at this); omega)
       have z17_0 : w2.heap.size < w17.heap.size := (by omega)
       have z17_1 : w10.heap.size < w17.heap.size := (by omega)
       have z17_2 : w14.heap.size < w17.heap.size := (by omega)
       have q17_0 : w17.cell? ⟨w2.heap.size, 0, none⟩ = some (.int .i64 D) := ext_cell hb q16_0
       have q17_1 : w17.cell? ⟨w2.heap.size, 1, none⟩ = some (.slice As l.length cs) := ext_cell hb q16_1
       have q17_2 : w17.cell? ⟨w2.heap.size, 2, none⟩ = some (.int .i64 P) := ext_cell hb q16_2
       have q17_3 : w17.cell? ⟨w2.heap.size, 3, none⟩ = some (.int .i64 Q) := ext_cell hb q16_3
       have q17_4 : w17.cell? ⟨w10.heap.size, 0, none⟩ = some (.int .i64 D2) := ext_cell hb q16_4
       have q17_5 : w17.cell? ⟨w10.heap.size, 1, none⟩ = some (.slice At l2.length ct) := ext_cell hb q16_5
       have q17_6 : w17.cell? ⟨w10.heap.size, 2, none⟩ = some (.int .i64 P2) := ext_cell hb q16_6
       have q17_7 : w17.cell? ⟨w10.heap.size, 3, none⟩ = some (.int .i64 Q2) := ext_cell hb q16_7
       have q17_8 : w17.cell? ⟨w14.heap.size, 0, none⟩ = some (.int .i64 D3) := ext_cell hb q16_8
       have q17_9 : w17.cell? ⟨w14.heap.size, 1, none⟩ = some (.slice Ay l3.length cy) := ext_cell hb q16_9
       have q17_10 : w17.cell? ⟨w14.heap.size, 2, none⟩ = some (.int .i64 P3) := ext_cell hb q16_10
       have q17_11 : w17.cell? ⟨w14.heap.size, 3, none⟩ = some (.int .i64 Q3) := ext_cell hb q16_11
       have b17 := Lib.hid (ext_trans b16.out hb)
       have t17 : w.heap.size ≤ w17.heap.size := b17.out.size
       have o17_s := Lib.hid (own_ext o16_s.out hb)
       have o17_a := Lib.hid (own_ext o16_a.out hb)
       have o17_b := Lib.hid (own_ext o16_b.out hb)
       have o17_u := Lib.hid (own_ext o16_u.out hb)
       have o17_v := Lib.hid (own_ext o16_v.out hb)
       have o17_t := Lib.hid (own_ext o16_t.out hb)
       have o17_g := Lib.hid (own_ext o16_g.out hb)
       have o17_e := Lib.hid (own_ext o16_e.out hb)
       have o17_y := Lib.hid (own_ext o16_y.out hb)
       clear q16_0 q16_1 q16_2 q16_3 q16_4 q16_5 q16_6 q16_7 q16_8 q16_9 q16_10 q16_11
       clear hb
       have oc_z := Lib.hid (own_base (base' := w16.heap.size + 0) ho_z (by simp))
       clear ho_z
       have HT1 := Lib.hid (fun (w : World) (A : Option Addr) (c : Nat) h => implStudentText_any D4 P4 Q4 id4 A l4.length c l4 w (by omega) h)
       have HT2 := Lib.hid (fun (w : World) (A : Option Addr) (c : Nat) h => specStudentText_any D4 P4 Q4 id4 A l4.length c l4 w (by omega) h)
       unfold TxtRet at HT1 HT2
       obtain ⟨m4, hm4⟩ : ∃ m4, (stuO D4 P4 Q4 l4 id4).getD ⟨#[]⟩ = m4 := ⟨_, rfl⟩
       obtain ⟨k4, hk4⟩ : ∃ k4, (stuO D4 P4 Q4 l4 id4).isSome = k4 := ⟨_, rfl⟩
       rw [hm4, hk4] at HT1 HT2
       have hbk4 : (k4 == k4) = true := by cases k4 <;> rfl
       clear hm4 hk4
       go_wp2_with fail
       refine (HT1.out _ Az cz (Reads.of_own (oc_z.out.alloc _))).mono ?_
       rintro e w18 ⟨rfl, hb⟩
       have s18 : w17.heap.size + 1 ≤ w18.heap.size := (by have := hb.size; (try simp at this); omega)
       have z18_0 : w2.heap.size < w18.heap.size := (by omega)
       have z18_1 : w10.heap.size < w18.heap.size := (by omega)
       have z18_2 : w14.heap.size < w18.heap.size := (by omega)
       have z18_3 : w17.heap.size < w18.heap.size := (by omega)
       have q18_0 : w18.cell? ⟨w2.heap.size, 0, none⟩ = some (.int .i64 D) := ext_cell hb (cell_old q17_0 _)
       have q18_1 : w18.cell? ⟨w2.heap.size, 1, none⟩ = some (.slice As l.length cs) := ext_cell hb (cell_old q17_1 _)
       have q18_2 : w18.cell? ⟨w2.heap.size, 2, none⟩ = some (.int .i64 P) := ext_cell hb (cell_old q17_2 _)
       have q18_3 : w18.cell? ⟨w2.heap.size, 3, none⟩ = some (.int .i64 Q) := ext_cell hb (cell_old q17_3 _)
       have q18_4 : w18.cell? ⟨w10.heap.size, 0, none⟩ = some (.int .i64 D2) := ext_cell hb (cell_old q17_4 _)
       have q18_5 : w18.cell? ⟨w10.heap.size, 1, none⟩ = some (.slice At l2.length ct) := ext_cell hb (cell_old q17_5 _)
       have q18_6 : w18.cell? ⟨w10.heap.size, 2, none⟩ = some (.int .i64 P2) := ext_cell hb (cell_old q17_6 _)
       have q18_7 : w18.cell? ⟨w10.heap.size, 3, none⟩ = some (.int .i64 Q2) := ext_cell hb (cell_old q17_7 _)
       have q18_8 : w18.cell? ⟨w14.heap.size, 0, none⟩ = some (.int .i64 D3) := ext_cell hb (cell_old q17_8 _)
       have q18_9 : w18.cell? ⟨w14.heap.size, 1, none⟩ = some (.slice Ay l3.length cy) := ext_cell hb (cell_old q17_9 _)
       have q18_10 : w18.cell? ⟨w14.heap.size, 2, none⟩ = some (.int .i64 P3) := ext_cell hb (cell_old q17_10 _)
       have q18_11 : w18.cell? ⟨w14.heap.size, 3, none⟩ = some (.int .i64 Q3) := ext_cell hb (cell_old q17_11 _)
       have q18_12 : w18.cell? ⟨w17.heap.size, 0, none⟩ = some (.int .i64 D4) := ext_cell hb (by simp [go_sem])
       have q18_13 : w18.cell? ⟨w17.heap.size, 1, none⟩ = some (.slice Az l4.length cz) := ext_cell hb (by simp [go_sem])
       have q18_14 : w18.cell? ⟨w17.heap.size, 2, none⟩ = some (.int .i64 P4) := ext_cell hb (by simp [go_sem])
       have q18_15 : w18.cell? ⟨w17.heap.size, 3, none⟩ = some (.int .i64 Q4) := ext_cell hb (by simp [go_sem])
       have b18 := Lib.hid (ext_trans (ext_alloc b17.out _) hb)
       have t18 : w.heap.size ≤ w18.heap.size := b18.out.size
       have o18_s := Lib.hid (own_ext (o17_s.out.alloc _) hb)
       have o18_a := Lib.hid (own_ext (o17_a.out.alloc _) hb)
       have o18_b := Lib.hid (own_ext (o17_b.out.alloc _) hb)
       have o18_u := Lib.hid (own_ext (o17_u.out.alloc _) hb)
       have o18_v := Lib.hid (own_ext (o17_v.out.alloc _) hb)
       have o18_t := Lib.hid (own_ext (o17_t.out.alloc _) hb)
       have o18_g := Lib.hid (own_ext (o17_g.out.alloc _) hb)
       have o18_e := Lib.hid (own_ext (o17_e.out.alloc _) hb)
       have o18_y := Lib.hid (own_ext (o17_y.out.alloc _) hb)
       have o18_z := Lib.hid (own_ext (oc_z.out.alloc _) hb)
       clear q17_0 q17_1 q17_2 q17_3 q17_4 q17_5 q17_6 q17_7 q17_8 q17_9 q17_10 q17_11
       clear hb
       go_wp2_with fail
       refine (HT2.out _ Az cz (Reads.of_own o18_z.out)).mono ?_
       rintro e w19 ⟨rfl, hb⟩
       have s19 : w18.heap.size ≤ w19.heap.size := (by have := hb.size; (try simp at this); omega)
       have z19_0 : w2.heap.size < w19.heap.size := (by omega)
       have z19_1 : w10.heap.size < w19.heap.size := (by omega)
       have z19_2 : w14.heap.size < w19.heap.size := (by omega)
       have z19_3 : w17.heap.size < w19.heap.size := (by omega)
       have q19_0 : w19.cell? ⟨w2.heap.size, 0, none⟩ = some (.int .i64 D) := ext_cell hb q18_0
       have q19_1 : w19.cell? ⟨w2.heap.size, 1, none⟩ = some (.slice As l.length cs) := ext_cell hb q18_1
       have q19_2 : w19.cell? ⟨w2.heap.size, 2, none⟩ = some (.int .i64 P) := ext_cell hb q18_2
       have q19_3 : w19.cell? ⟨w2.heap.size, 3, none⟩ = some (.int .i64 Q) := ext_cell hb q18_3
       have q19_4 : w19.cell? ⟨w10.heap.size, 0, none⟩ = some (.int .i64 D2) := ext_cell hb q18_4
       have q19_5 : w19.cell? ⟨w10.heap.size, 1, none⟩ = some (.slice At l2.length ct) := ext_cell hb q18_5
       have q19_6 : w19.cell? ⟨w10.heap.size, 2, none⟩ = some (.int .i64 P2) := ext_cell hb q18_6
       have q19_7 : w19.cell? ⟨w10.heap.size, 3, none⟩ = some (.int .i64 Q2) := ext_cell hb q18_7
       have q19_8 : w19.cell? ⟨w14.heap.size, 0, none⟩ = some (.int .i64 D3) := ext_cell hb q18_8
       have q19_9 : w19.cell? ⟨w14.heap.size, 1, none⟩ = some (.slice Ay l3.length cy) := ext_cell hb q18_9
       have q19_10 : w19.cell? ⟨w14.heap.size, 2, none⟩ = some (.int .i64 P3) := ext_cell hb q18_10
       have q19_11 : w19.cell? ⟨w14.heap.size, 3, none⟩ = some (.int .i64 Q3) := ext_cell hb q18_11
       have q19_12 : w19.cell? ⟨w17.heap.size, 0, none⟩ = some (.int .i64 D4) := ext_cell hb q18_12
       have q19_13 : w19.cell? ⟨w17.heap.size, 1, none⟩ = some (.slice Az l4.length cz) := ext_cell hb q18_13
       have q19_14 : w19.cell? ⟨w17.heap.size, 2, none⟩ = some (.int .i64 P4) := ext_cell hb q18_14
       have q19_15 : w19.cell? ⟨w17.heap.size, 3, none⟩ = some (.int .i64 Q4) := ext_cell hb q18_15
       have b19 := Lib.hid (ext_trans b18.out hb)
       have t19 : w.heap.size ≤ w19.heap.size := b19.out.size
       have o19_s := Lib.hid (own_ext o18_s.out hb)
       have o19_a := Lib.hid (own_ext o18_a.out hb)
       have o19_b := Lib.hid (own_ext o18_b.out hb)
       have o19_u := Lib.hid (own_ext o18_u.out hb)
       have o19_v := Lib.hid (own_ext o18_v.out hb)
       have o19_t := Lib.hid (own_ext o18_t.out hb)
       have o19_g := Lib.hid (own_ext o18_g.out hb)
       have o19_e := Lib.hid (own_ext o18_e.out hb)
       have o19_y := Lib.hid (own_ext o18_y.out hb)
       have o19_z := Lib.hid (own_ext o18_z.out hb)
       clear q18_0 q18_1 q18_2 q18_3 q18_4 q18_5 q18_6 q18_7 q18_8 q18_9 q18_10 q18_11 q18_12 q18_13 q18_14 q18_15
       clear hb
       go_wp2
       go_ret
       exact ⟨rfl, b19.out⟩
end Go.Proofs.Ytclihlihaigddaa
