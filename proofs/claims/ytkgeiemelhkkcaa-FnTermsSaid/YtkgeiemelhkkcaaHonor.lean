
/- HonorTerms: the program's and the reference's. -/
import Derived.Test.YtkgeiemelhkkcaaGrowth
namespace Go.Proofs.Ytkgeiemelhkkcaa
open Go.RowKit
set_option linter.unusedVariables false
set_option linter.unusedSimpArgs false
def honR (p : Int) (r : R5) : Bool := decide (0 < r.d) && decide (p * r.d ≤ 100 * r.e)
def honTo (l : List R5) (p : Int) (k : Nat) : List Int := ((l.take k).filter (honR p)).map R5.a
def honOk (l : List R5) (p : Int) : Bool := areB l && decide (1 ≤ p ∧ p ≤ 100)
def honB (l : List R5) (p : Int) : List Int := if honOk l p = true then honTo l p l.length else []
theorem honTo_len (l : List R5) (p : Int) (k : Nat) : (honTo l p k).length ≤ k := by
  unfold honTo
  have h1 := List.length_filter_le (honR p) (l.take k)
  have h2 := List.length_take_le k l
  simp; omega
theorem honTo_yes {l : List R5} {p : Int} {k : Nat} {r : R5} (hr : l[k]? = some r) (hD : 0 < r.d) (hC : p * r.d ≤ 100 * r.e) : honTo l p (k + 1) = honTo l p k ++ [r.a] := by
  unfold honTo
  rw [List.take_add_one, hr]
  simp [honR, hD, hC]
theorem honTo_no {l : List R5} {p : Int} {k : Nat} {r : R5} (hr : l[k]? = some r) (h : ¬ 0 < r.d ∨ ¬ p * r.d ≤ 100 * r.e) : honTo l p (k + 1) = honTo l p k := by
  unfold honTo
  rw [List.take_add_one, hr]
  have : honR p r = false := by rcases h with h | h <;> simp [honR, h] <;> omega
  simp [this]
set_option maxHeartbeats 1000000 in
theorem implHonor_any (A : Option Addr) (n c : Nat) (l : List R5) (p : Int) (w : World) (hn : n ≤ 1048576) (h : Reads w w.heap.size 5 A n (rowsV l)) :
    Calls Try.prog 38 #[.slice A n c, .int .i64 p] w (RetSliceB w 3 1 (honB l p).length (intsV (honB l p)) (honOk l p)) := by
  have hl := rows_len h
  have H := Lib.hid h
  have HL := Lib.hid hl
  clear h hl
  obtain ⟨i0, hi, hz0, hz1, hz2⟩ := info_parts info_int
  cases hg : areB l
  · have E : honB l p = [] ∧ honOk l p = false := by simp [honB, honOk, hg]
    rw [E.1, E.2]
    clear E
    go_enter Try.func38, Try.ntmps38
    go_wp2_with (first | (go_at_call 21; refine (areTermRows_any A n c l _ hn (H.out)).mono ?_; rintro e w' ⟨rfl, hb⟩; obtain ⟨hc, hf⟩ := bcell hb; have hz := hb.size; (try simp at hz)) | (go_at_call 57; refine (within_any _ _ _ _).mono ?_; rintro e w' ⟨rfl, rfl⟩))
    go_ret2
    exact ⟨none, 0, rfl, World.ownsRow_nil _ _ _ _, (by repeat (first | exact ext_refl _ | assumption | refine ext_alloc ?_ _ | refine ext_drew ?_ | refine ext_drewN ?_ _ | refine ext_set ?_ (by simp <;> omega) _ | refine ext_trans ?_ (by assumption)))⟩
  by_cases hp : 1 ≤ p ∧ p ≤ 100
  · have E : honB l p = honTo l p n ∧ honOk l p = true := by simp [honB, honOk, hg, hp, HL.out]
    have HE := Lib.hid E.1
    rw [E.2]
    clear E
    have HG := Lib.hid (fun (k : Nat) (r : R5) (h : l[k]? = some r) => are_all hg h)
    have hd := Lib.hid hp
    obtain ⟨hp1, hp2⟩ := hp
    have hpd : decide (1 ≤ p ∧ p ≤ 100) = true := by simp; omega
    go_enter Try.func38, Try.ntmps38
    go_wp2_with (first | (go_at_call 21; refine (areTermRows_any A n c l _ hn (H.out)).mono ?_; rintro e w' ⟨rfl, hb⟩; obtain ⟨hc, hf⟩ := bcell hb; have hz := hb.size; (try simp at hz)) | (go_at_call 57; refine (within_any _ _ _ _).mono ?_; rintro e w' ⟨rfl, rfl⟩))
    have ho := World.ownsRow_nil w' w.heap.size 3 1
    go_loopw [6, 19] (fun v i wr => ∃ k : Nat, k ≤ n ∧ i = .int .i64 k ∧ wr.ownsRow w.heap.size 3 1 v (honTo l p k).length (intsV (honTo l p k)) ∧ Below w.heap.size w wr) (fun _ i _ => n - (intOf i).toNat)
    case atStart => exact ⟨0, Nat.zero_le _, rfl, by simpa [honTo, intsV] using ho, (by repeat (first | exact ext_refl _ | assumption | refine ext_alloc ?_ _ | refine ext_drew ?_ | refine ext_drewN ?_ _ | refine ext_set ?_ (by simp <;> omega) _ | refine ext_trans ?_ (by assumption)))⟩
    case round =>
      obtain ⟨k, hk, rfl, hown, hbl⟩ := hrel
      by_cases hlt : k < n
      · obtain ⟨r, hr⟩ := list_split (l := l) (k := k) (by rw [HL.out]; exact hlt)
        obtain ⟨b, o, rfl, hbb, c0, c1, c2, c3, c4⟩ := rows_at (H.out.ext hbl (Nat.le_refl _)) hr
        have hbw : b < wr.heap.size := Nat.lt_of_lt_of_le hbb hbl.size
        obtain ⟨y1, y2, y3, ⟨y4, y4'⟩, y5, y5'⟩ := row_bounds (HG.out k r hr)
        obtain ⟨p1, p1'⟩ : 0 ≤ p * r.d ∧ p * r.d ≤ 998001 := mul_bounds (by omega) (by omega) (by omega) (by omega)
        have hlen := honTo_len l p k
        have m1 : (honTo l p k).length + 1 ≤ maxLen := by unfold maxLen; omega
        have m2 : ((honTo l p k).length + 1) * 8 ≤ 140737488355328 := by omega
        have m3 := hbl.size
        by_cases hD : 0 < r.d
        · have d1 : decide (0 < r.d) = true := by simpa using hD
          by_cases hC : p * r.d ≤ 100 * r.e
          · have d2 : decide (p * r.d ≤ 100 * r.e) = true := by simpa using hC
            have hnew := Lib.hid (honTo_yes hr hD hC)
            clear hr
            go_wp2_with (at_builtin; refine wpList_append_own _ rfl (.tmp 36) (.tmp 39) 41 rfl w.heap.size 3 i0 _ 1 8 Try.underlying41 hi hz0 hz1 hz2 rfl (by decide) _ _ _ rfl ((hown.alloc _).alloc _) _ 1 1 [.int .i64 r.a] rfl rfl (cell_one_at _ _ _ (by simp)) (by simp [Value.oneCell']) m1 m2 (by simp; omega) ?_; intro v' w2 hown2 hgrow _)
            go_roundw
            case rel =>
              refine ⟨k + 1, by omega, by go_num, ?_, below_grown hown (by repeat (first | exact ext_refl _ | assumption | refine ext_alloc ?_ _ | refine ext_drew ?_ | refine ext_drewN ?_ _ | refine ext_set ?_ (by simp <;> omega) _ | refine ext_trans ?_ (by assumption))) hgrow⟩
              rw [hnew.out]
              simpa [intsV] using hown2
            case measure => simp [intOf]; omega
          · have d2 : decide (p * r.d ≤ 100 * r.e) = false := by simpa using hC
            have hnew := Lib.hid (honTo_no hr (Or.inr hC))
            clear hr
            go_wp2
            go_roundw
            case rel => exact ⟨k + 1, by omega, by go_num, by rw [hnew.out]; exact hown.alloc _, (by repeat (first | exact ext_refl _ | assumption | refine ext_alloc ?_ _ | refine ext_drew ?_ | refine ext_drewN ?_ _ | refine ext_set ?_ (by simp <;> omega) _ | refine ext_trans ?_ (by assumption)))⟩
            case measure => simp [intOf]; omega
        · have d1 : decide (0 < r.d) = false := by simpa using hD
          have hnew := Lib.hid (honTo_no (p := p) hr (Or.inl hD))
          clear hr
          go_wp2
          go_roundw
          case rel => exact ⟨k + 1, by omega, by go_num, by rw [hnew.out]; exact hown.alloc _, (by repeat (first | exact ext_refl _ | assumption | refine ext_alloc ?_ _ | refine ext_drew ?_ | refine ext_drewN ?_ _ | refine ext_set ?_ (by simp <;> omega) _ | refine ext_trans ?_ (by assumption)))⟩
          case measure => simp [intOf]; omega
      · obtain rfl : k = n := by omega
        obtain ⟨A', c', rfl⟩ := own_shape hown
        go_wp2
        go_ret2
        refine ⟨A', c', ?_, ?_, hbl⟩
        · rw [HE.out]; rfl
        · rw [HE.out]; exact hown
  · have E : honB l p = [] ∧ honOk l p = false := by
      have : ¬ (decide (1 ≤ p ∧ p ≤ 100) = true) := by simpa using hp
      simp [honB, honOk]; omega
    rw [E.1, E.2]
    clear E
    have hpd : decide (1 ≤ p ∧ p ≤ 100) = false := by simpa using hp
    go_enter Try.func38, Try.ntmps38
    go_wp2_with (first | (go_at_call 21; refine (areTermRows_any A n c l _ hn (H.out)).mono ?_; rintro e w' ⟨rfl, hb⟩; obtain ⟨hc, hf⟩ := bcell hb; have hz := hb.size; (try simp at hz)) | (go_at_call 57; refine (within_any _ _ _ _).mono ?_; rintro e w' ⟨rfl, rfl⟩))
    go_ret2
    exact ⟨none, 0, rfl, World.ownsRow_nil _ _ _ _, (by repeat (first | exact ext_refl _ | assumption | refine ext_alloc ?_ _ | refine ext_drew ?_ | refine ext_drewN ?_ _ | refine ext_set ?_ (by simp <;> omega) _ | refine ext_trans ?_ (by assumption)))⟩
set_option maxHeartbeats 1000000 in
theorem specHonor_any (A : Option Addr) (n c : Nat) (l : List R5) (p : Int) (w : World) (hn : n ≤ 1048576) (h : Reads w w.heap.size 5 A n (rowsV l)) :
    Calls Try.prog 37 #[.slice A n c, .int .i64 p] w (RetSliceB w 3 1 (honB l p).length (intsV (honB l p)) (honOk l p)) := by
  have hl := rows_len h
  have H := Lib.hid h
  have HL := Lib.hid hl
  clear h hl
  obtain ⟨i0, hi, hz0, hz1, hz2⟩ := info_parts info_int
  cases hg : areB l
  · have E : honB l p = [] ∧ honOk l p = false := by simp [honB, honOk, hg]
    rw [E.1, E.2]
    clear E
    go_enter Try.func37, Try.ntmps37
    go_wp2_with (first | (go_at_call 58; refine (l26Good_any A n c l _ hn (rows_ext H.out (ext_alloc (ext_refl w) _))).mono ?_; rintro e w' ⟨rfl, hb⟩; obtain ⟨hc, hf⟩ := bcell hb; have hz := hb.size; (try simp at hz)) | (go_at_call 64; refine (l1In_any _ _ _ _).mono ?_; rintro e w' ⟨rfl, rfl⟩))
    have ho := own_ext (own_lit0 w 3 1) hb
    go_ret2
    exact ⟨_, _, rfl, ho, (by repeat (first | exact ext_refl _ | assumption | refine ext_alloc ?_ _ | refine ext_drew ?_ | refine ext_drewN ?_ _ | refine ext_set ?_ (by simp <;> omega) _ | refine ext_trans ?_ (by assumption)))⟩
  by_cases hp : 1 ≤ p ∧ p ≤ 100
  · have E : honB l p = honTo l p n ∧ honOk l p = true := by simp [honB, honOk, hg, hp, HL.out]
    have HE := Lib.hid E.1
    rw [E.2]
    clear E
    have HG := Lib.hid (fun (k : Nat) (r : R5) (h : l[k]? = some r) => are_all hg h)
    have hd := Lib.hid hp
    obtain ⟨hp1, hp2⟩ := hp
    have hpd : decide (1 ≤ p ∧ p ≤ 100) = true := by simp; omega
    go_enter Try.func37, Try.ntmps37
    go_wp2_with (first | (go_at_call 58; refine (l26Good_any A n c l _ hn (rows_ext H.out (ext_alloc (ext_refl w) _))).mono ?_; rintro e w' ⟨rfl, hb⟩; obtain ⟨hc, hf⟩ := bcell hb; have hz := hb.size; (try simp at hz)) | (go_at_call 64; refine (l1In_any _ _ _ _).mono ?_; rintro e w' ⟨rfl, rfl⟩))
    have ho := own_ext (own_lit0 w 3 1) hb
    go_loopw [6, 7] (fun v i wr => ∃ k : Nat, k ≤ n ∧ i = .int .i64 k ∧ wr.ownsRow w.heap.size 3 1 v (honTo l p k).length (intsV (honTo l p k)) ∧ Below w.heap.size w wr) (fun _ i _ => n - (intOf i).toNat)
    case atStart => exact ⟨0, Nat.zero_le _, rfl, by simpa [honTo, intsV] using ho, (by repeat (first | exact ext_refl _ | assumption | refine ext_alloc ?_ _ | refine ext_drew ?_ | refine ext_drewN ?_ _ | refine ext_set ?_ (by simp <;> omega) _ | refine ext_trans ?_ (by assumption)))⟩
    case round =>
      obtain ⟨k, hk, rfl, hown, hbl⟩ := hrel
      by_cases hlt : k < n
      · obtain ⟨r, hr⟩ := list_split (l := l) (k := k) (by rw [HL.out]; exact hlt)
        obtain ⟨b, o, rfl, hbb, c0, c1, c2, c3, c4⟩ := rows_at (H.out.ext hbl (Nat.le_refl _)) hr
        have hbw : b < wr.heap.size := Nat.lt_of_lt_of_le hbb hbl.size
        obtain ⟨y1, y2, y3, ⟨y4, y4'⟩, y5, y5'⟩ := row_bounds (HG.out k r hr)
        obtain ⟨p1, p1'⟩ : 0 ≤ p * r.d ∧ p * r.d ≤ 998001 := mul_bounds (by omega) (by omega) (by omega) (by omega)
        have hlen := honTo_len l p k
        have m1 : (honTo l p k).length + 1 ≤ maxLen := by unfold maxLen; omega
        have m2 : ((honTo l p k).length + 1) * 8 ≤ 140737488355328 := by omega
        have m3 := hbl.size
        by_cases hD : 0 < r.d
        · have d1 : decide (0 < r.d) = true := by simpa using hD
          by_cases hC : p * r.d ≤ 100 * r.e
          · have d2 : decide (p * r.d ≤ 100 * r.e) = true := by simpa using hC
            have hnew := Lib.hid (honTo_yes hr hD hC)
            clear hr
            go_wp2_with (at_builtin; refine wpList_append_own _ rfl (.tmp 42) (.tmp 45) 41 rfl w.heap.size 3 i0 _ 1 8 Try.underlying41 hi hz0 hz1 hz2 rfl (by decide) _ _ _ rfl ((hown.alloc _).alloc _) _ 1 1 [.int .i64 r.a] rfl rfl (cell_one_at _ _ _ (by simp)) (by simp [Value.oneCell']) m1 m2 (by simp; omega) ?_; intro v' w2 hown2 hgrow _)
            go_roundw
            case rel =>
              refine ⟨k + 1, by omega, by go_num, ?_, below_grown hown (by repeat (first | exact ext_refl _ | assumption | refine ext_alloc ?_ _ | refine ext_drew ?_ | refine ext_drewN ?_ _ | refine ext_set ?_ (by simp <;> omega) _ | refine ext_trans ?_ (by assumption))) hgrow⟩
              rw [hnew.out]
              simpa [intsV] using hown2
            case measure => simp [intOf]; omega
          · have d2 : decide (p * r.d ≤ 100 * r.e) = false := by simpa using hC
            have hnew := Lib.hid (honTo_no hr (Or.inr hC))
            clear hr
            go_wp2
            go_roundw
            case rel => exact ⟨k + 1, by omega, by go_num, by rw [hnew.out]; exact hown.alloc _, (by repeat (first | exact ext_refl _ | assumption | refine ext_alloc ?_ _ | refine ext_drew ?_ | refine ext_drewN ?_ _ | refine ext_set ?_ (by simp <;> omega) _ | refine ext_trans ?_ (by assumption)))⟩
            case measure => simp [intOf]; omega
        · have d1 : decide (0 < r.d) = false := by simpa using hD
          have hnew := Lib.hid (honTo_no (p := p) hr (Or.inl hD))
          clear hr
          go_wp2
          go_roundw
          case rel => exact ⟨k + 1, by omega, by go_num, by rw [hnew.out]; exact hown.alloc _, (by repeat (first | exact ext_refl _ | assumption | refine ext_alloc ?_ _ | refine ext_drew ?_ | refine ext_drewN ?_ _ | refine ext_set ?_ (by simp <;> omega) _ | refine ext_trans ?_ (by assumption)))⟩
          case measure => simp [intOf]; omega
      · obtain rfl : k = n := by omega
        obtain ⟨A', c', rfl⟩ := own_shape hown
        go_wp2
        go_ret2
        refine ⟨A', c', ?_, ?_, hbl⟩
        · rw [HE.out]; rfl
        · rw [HE.out]; exact hown
  · have E : honB l p = [] ∧ honOk l p = false := by
      have : ¬ (decide (1 ≤ p ∧ p ≤ 100) = true) := by simpa using hp
      simp [honB, honOk]; omega
    rw [E.1, E.2]
    clear E
    have hpd : decide (1 ≤ p ∧ p ≤ 100) = false := by simpa using hp
    go_enter Try.func37, Try.ntmps37
    go_wp2_with (first | (go_at_call 58; refine (l26Good_any A n c l _ hn (rows_ext H.out (ext_alloc (ext_refl w) _))).mono ?_; rintro e w' ⟨rfl, hb⟩; obtain ⟨hc, hf⟩ := bcell hb; have hz := hb.size; (try simp at hz)) | (go_at_call 64; refine (l1In_any _ _ _ _).mono ?_; rintro e w' ⟨rfl, rfl⟩))
    have ho := own_ext (own_lit0 w 3 1) hb
    go_ret2
    exact ⟨_, _, rfl, ho, (by repeat (first | exact ext_refl _ | assumption | refine ext_alloc ?_ _ | refine ext_drew ?_ | refine ext_drewN ?_ _ | refine ext_set ?_ (by simp <;> omega) _ | refine ext_trans ?_ (by assumption)))⟩
theorem honB_len (l : List R5) (p : Int) : (honB l p).length ≤ l.length := by
  unfold honB
  split
  · exact honTo_len l p _
  · simp
set_option maxHeartbeats 2000000 in
theorem law_HonorTerms (A : Option Addr) (n c : Nat) (l : List R5)(p : Int) (w : World) (hlen : n ≤ maxLen) (h : Reads w w.heap.size 5 A n (rowsV l)) :
    Calls Try.prog 10 #[.slice A n c, .int .i64 p] w fun r w' => r = .returned (.bool true) ∧ Below w.heap.size w w' := by
  unfold maxLen at hlen
  have hl := rows_len h
  by_cases hbig : (1048576 : Int) < n
  · have hs : (if (1048576 : Int) < n then (-1 : Int) else 1048576 - n) = -1 := if_pos hbig
    go_enter Try.func10, Try.ntmps10
    go_wp2_with fail
    refine (szTermRowS_any A n c 1048576 _ hlen (by omega) (by omega)).mono ?_
    rintro e w' ⟨rfl, rfl⟩
    rw [hs]
    clear hs
    go_wp2
    go_ret
    exact ⟨rfl, ext_refl _⟩
  · have hs : (if (1048576 : Int) < n then (-1 : Int) else 1048576 - n) = 1048576 - n := if_neg hbig
    have hres := honB_len l p
    obtain ⟨N, hN⟩ : ∃ N, N = (honB l p).length := ⟨_, rfl⟩
    rw [← hN] at hres
    have HN := Lib.hid hN
    have HL := Lib.hid hl
    have H := Lib.hid h
    clear hN hl h
    go_enter Try.func10, Try.ntmps10
    go_wp2_with fail
    refine (szTermRowS_any A n c 1048576 _ hlen (by omega) (by omega)).mono ?_
    rintro e w' ⟨rfl, rfl⟩
    rw [hs]
    clear hs
    have hn : n ≤ 1048576 := by omega
    have hNn : N ≤ 1048576 := by have := HL.out; omega
    go_wp2_with fail
    refine (toTermRowS_any A n c l _ hn H.out).mono ?_
    rintro e w1 ⟨A1, c1, rfl, ho1, hb1⟩
    have h1 := Lib.hid (rows_ext H.out hb1)
    go_wp2_with fail
    refine (specHonor_any A1 n c1 l p _ hn (Reads.of_own ho1)).mono ?_
    rw [← HN.out]
    rintro e w2 ⟨Aw, cw, rfl, how, hb2⟩
    have h2 := Lib.hid (rows_ext h1.out hb2)
    have how := Lib.hid how
    go_wp2_with fail
    refine (toTermRowS_any A n c l _ hn h2.out).mono ?_
    rintro e w3 ⟨A3, c3, rfl, ho3, hb3⟩
    have h3 := Lib.hid (rows_ext h2.out hb3)
    have how3 := Lib.hid (own_ext how.out hb3)
    have ho3 := Lib.hid ho3
    go_wp2_with fail
    refine (implHonor_any A3 n c3 l p _ hn (Reads.of_own ho3.out)).mono ?_
    rw [← HN.out]
    rintro e w4 ⟨Ag, cg, rfl, hog, hb4⟩
    have h4 := Lib.hid (rows_ext h3.out hb4)
    have how4 := Lib.hid (own_ext how3.out hb4)
    have ho4 := Lib.hid (own_ext ho3.out hb4)
    have hog := Lib.hid hog
    go_wp2_with fail
    refine (eqIntS_any Ag Aw N N cg cw (honB l p) (honB l p) _ (by omega) (by omega) (Reads.of_own hog.out) (Reads.of_own how4.out)).mono ?_
    rintro e w5 ⟨rfl, hb5⟩
    have h5 := Lib.hid (rows_ext h4.out hb5)
    have how5 := Lib.hid (own_ext how4.out hb5)
    have ho5 := Lib.hid (own_ext ho4.out hb5)
    have hog5 := Lib.hid (own_ext hog.out hb5)
    go_wp2_with fail
    refine (toTermRowS_any A n c l _ hn h5.out).mono ?_
    rintro e w6 ⟨A6, c6, rfl, ho6, hb6⟩
    have h6 := Lib.hid (rows_ext h5.out hb6)
    have how6 := Lib.hid (own_ext how5.out hb6)
    have hox6 := Lib.hid (own_ext ho5.out hb6)
    have hog6 := Lib.hid (own_ext hog5.out hb6)
    have ho6 := Lib.hid ho6
    go_wp2_with fail
    refine (eqTermRowS_any A3 A6 n n c3 c6 l l _ hn hn (Reads.of_own hox6.out) (Reads.of_own ho6.out)).mono ?_
    rintro e w7 ⟨rfl, hb7⟩
    have h7 := Lib.hid (rows_ext h6.out hb7)
    have how7 := Lib.hid (own_ext how6.out hb7)
    have hox7 := Lib.hid (own_ext hox6.out hb7)
    have hog7 := Lib.hid (own_ext hog6.out hb7)
    go_wp2_with fail
    refine (markTermRowS_any A3 n c3 _ _ 1 _ (by omega) (by omega) (by omega) hox7.out).mono ?_
    rintro e w8 ⟨rfl, hox8, hg8⟩
    -- what the mark left alone
    have hbw7 := Lib.hid (ext_trans (ext_trans (ext_trans (ext_trans (ext_trans (ext_trans hb1 hb2) hb3) hb4) hb5) hb6) hb7)
    have hbw8 := Lib.hid (below_grown' hox7.out (Nat.le_trans hb1.size hb2.size) hbw7.out hg8)
    have hog8 := Lib.hid (hog7.out.kept hg8 (own_ne ho3.out hog.out (Nat.le_refl _)))
    have how8 := Lib.hid (how7.out.kept hg8 (own_ne' how.out ho3.out (Nat.le_refl _)))
    go_wp2_with fail
    refine (eqIntS_any Ag Aw N N cg cw (honB l p) (honB l p) _ (by omega) (by omega) (Reads.of_own hog8.out) (Reads.of_own how8.out)).mono ?_
    rintro e w9 ⟨rfl, hb9⟩
    have hog9 := Lib.hid (own_ext hog8.out hb9)
    have how9 := Lib.hid (own_ext how8.out hb9)
    have hbw9 := Lib.hid (ext_trans hbw8.out hb9)
    go_wp2_with fail
    refine (markIntS_any Ag N cg _ _ 1 _ (by omega) (by omega) (by omega) hog9.out).mono ?_
    rintro e w10 ⟨rfl, hogm, hg10⟩
    have hogm := Lib.hid hogm
    have how10 := Lib.hid (how9.out.kept hg10 (own_ne' how.out hog.out hb3.size))
    have hbw10 := Lib.hid (below_grown' hog9.out (Nat.le_trans (Nat.le_trans hb1.size hb2.size) hb3.size) hbw9.out hg10)
    go_wp2_with fail
    refine (heldIntS_any Ag N cg 1 _ (by omega) (by omega) (by omega) (Reads.of_own hogm.out)).mono ?_
    rintro e w11 ⟨rfl, rfl⟩
    go_wp2_with fail
    refine (toTermRowS_any A n c l _ hn ((H.out.below hbw10.out).more hbw10.out.size)).mono ?_
    rintro e w12 ⟨Ay, cy, rfl, hoy, hb12⟩
    go_wp2_with fail
    refine (implHonor_any Ay n cy l p _ hn (Reads.of_own hoy)).mono ?_
    rw [← HN.out]
    rintro e w13 ⟨Ah, ch, rfl, hoh, hb13⟩
    have how13 := Lib.hid (own_ext (own_ext how10.out hb12) hb13)
    have hogm13 := Lib.hid (own_ext (own_ext hogm.out hb12) hb13)
    have hoh := Lib.hid hoh
    go_wp2_with fail
    refine (eqIntS_any Ah Aw N N ch cw (honB l p) (honB l p) _ (by omega) (by omega) (Reads.of_own hoh.out) (Reads.of_own how13.out)).mono ?_
    rintro e w14 ⟨rfl, hb14⟩
    have hogm14 := Lib.hid (own_ext hogm13.out hb14)
    go_wp2_with fail
    refine (heldIntS_any Ag N cg 1 _ (by omega) (by omega) (by omega) (Reads.of_own hogm14.out)).mono ?_
    rintro e w15 ⟨rfl, rfl⟩
    go_wp2
    go_ret
    exact ⟨rfl, ext_trans (ext_trans (ext_trans hbw10.out hb12) hb13) hb14⟩
end Go.Proofs.Ytkgeiemelhkkcaa
