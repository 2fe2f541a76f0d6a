/- Moves of beads: which are moves, how many beads they move. -/
import Derived.Test.YtphhelmcaehclaaVM4
namespace Go.Proofs.Ytphhelmcaehclaa
open Go.RowKit
set_option linter.unusedVariables false
set_option linter.unusedSimpArgs false
/-- a move of beads -/
def okM (m : R3) : Bool := inB m.a 0 7 && inB m.b 0 1 && inB m.c (-5) 5 && (m.c != 0)
def mvsB (ms : List R3) : Bool := decide (ms.length ≤ 60) && ms.all okM
def rcdB (ms : List R3) : Bool := decide (ms.length ≤ 12) && mvsB ms
theorem okM_iff {m : R3} : okM m = true ↔ (0 ≤ m.a ∧ m.a ≤ 7) ∧ (0 ≤ m.b ∧ m.b ≤ 1) ∧ (-5 ≤ m.c ∧ m.c ≤ 5) ∧ m.c ≠ 0 := by
 simp only [okM, Bool.and_eq_true, inB_iff, bne_iff_ne]
 exact ⟨fun ⟨⟨⟨a, b⟩, c⟩, d⟩ => ⟨a, b, c, d⟩, fun ⟨a, b, c, d⟩ => ⟨⟨⟨a, b⟩, c⟩, d⟩⟩
theorem all_snoc3 {l : List R3} {k : Nat} {r : R3} {p : R3 → Bool} (h : (l.take k).all p = true) (hr : l[k]? = some r) (hp : p r = true) : (l.take (k + 1)).all p = true := by
 rw [List.take_add_one, hr]
 simp [h, hp]
theorem all_bad3 {l : List R3} {k : Nat} {r : R3} {p : R3 → Bool} (hr : l[k]? = some r) (hp : p r = false) : l.all p = false := by
 rw [List.all_eq_false]
 exact ⟨r, List.mem_of_getElem? hr, by simp [hp]⟩
theorem all_whole3 {l : List R3} {k : Nat} {p : R3 → Bool} (h : (l.take k).all p = true) (hk : l.length ≤ k) : l.all p = true := by rwa [List.take_of_length_le hk] at h
theorem within_c (n lo hi : Int) (b : Bool) (w : World) (hb : inB n lo hi = b) :
 Calls Try.prog 49 #[.int .i64 n, .int .i64 lo, .int .i64 hi] w fun e w' => e = .returned (.bool b) ∧ w = w' := by
 subst hb; exact inB_within n lo hi w
theorem l1In_c (n lo hi : Int) (b : Bool) (w : World) (hb : inB n lo hi = b) :
 Calls Try.prog 54 #[.int .i64 n, .int .i64 lo, .int .i64 hi] w fun e w' => e = .returned (.bool b) ∧ w = w' := by
 subst hb; exact inB_l1In n lo hi w
theorem IsBeadMove_any (m : R3) (w : World) :
 Calls Try.prog 80 #[m.val] w fun e w' => e = .returned (.bool (okM m)) ∧ Below w.heap.size w w' := by
 cases ha : inB m.a 0 7
 · rw [show okM m = false by simp [okM, ha]]
   go_enter Try.func80, Try.ntmps80
   go_wp2_with (first | (go_at_call 49; with_reducible refine (within_c _ _ _ _ _ ha).mono ?_; rintro e w' ⟨rfl, rfl⟩))
   go_ret
   exact ⟨rfl, ext_alloc (ext_refl _) _⟩
 cases hb : inB m.b 0 1
 · rw [show okM m = false by simp [okM, hb]]
   go_enter Try.func80, Try.ntmps80
   go_wp2_with (first | (go_at_call 49; with_reducible refine (within_c _ _ _ _ _ ha).mono ?_; rintro e w' ⟨rfl, rfl⟩) | (go_at_call 49; with_reducible refine (within_c _ _ _ _ _ hb).mono ?_; rintro e w' ⟨rfl, rfl⟩))
   go_ret
   exact ⟨rfl, ext_alloc (ext_refl _) _⟩
 cases hc : inB m.c (-5) 5
 · rw [show okM m = false by simp [okM, hc]]
   go_enter Try.func80, Try.ntmps80
   go_wp2_with (first | (go_at_call 49; with_reducible refine (within_c _ _ _ _ _ ha).mono ?_; rintro e w' ⟨rfl, rfl⟩) | (go_at_call 49; with_reducible refine (within_c _ _ _ _ _ hb).mono ?_; rintro e w' ⟨rfl, rfl⟩) | (go_at_call 49; with_reducible refine (within_c _ _ _ _ _ hc).mono ?_; rintro e w' ⟨rfl, rfl⟩))
   go_ret
   exact ⟨rfl, ext_alloc (ext_refl _) _⟩
 rw [show okM m = (m.c != 0) by simp [okM, ha, hb, hc]]
 go_enter Try.func80, Try.ntmps80
 go_wp2_with (first | (go_at_call 49; with_reducible refine (within_c _ _ _ _ _ ha).mono ?_; rintro e w' ⟨rfl, rfl⟩) | (go_at_call 49; with_reducible refine (within_c _ _ _ _ _ hb).mono ?_; rintro e w' ⟨rfl, rfl⟩) | (go_at_call 49; with_reducible refine (within_c _ _ _ _ _ hc).mono ?_; rintro e w' ⟨rfl, rfl⟩))
 go_ret
 exact ⟨rfl, ext_alloc (ext_refl _) _⟩
theorem l4One_any (m : R3) (w : World) :
 Calls Try.prog 97 #[m.val] w fun e w' => e = .returned (.bool (okM m)) ∧ Below w.heap.size w w' := by
 cases ha : inB m.a 0 7
 · rw [show okM m = false by simp [okM, ha]]
   go_enter Try.func97, Try.ntmps97
   go_wp2_with (first | (go_at_call 54; with_reducible refine (l1In_c _ _ _ _ _ ha).mono ?_; rintro e w' ⟨rfl, rfl⟩))
   go_ret
   exact ⟨rfl, ext_alloc (ext_refl _) _⟩
 cases hb : inB m.b 0 1
 · rw [show okM m = false by simp [okM, hb]]
   go_enter Try.func97, Try.ntmps97
   go_wp2_with (first | (go_at_call 54; with_reducible refine (l1In_c _ _ _ _ _ ha).mono ?_; rintro e w' ⟨rfl, rfl⟩) | (go_at_call 54; with_reducible refine (l1In_c _ _ _ _ _ hb).mono ?_; rintro e w' ⟨rfl, rfl⟩))
   go_ret
   exact ⟨rfl, ext_alloc (ext_refl _) _⟩
 cases hc : inB m.c (-5) 5
 · rw [show okM m = false by simp [okM, hc]]
   go_enter Try.func97, Try.ntmps97
   go_wp2_with (first | (go_at_call 54; with_reducible refine (l1In_c _ _ _ _ _ ha).mono ?_; rintro e w' ⟨rfl, rfl⟩) | (go_at_call 54; with_reducible refine (l1In_c _ _ _ _ _ hb).mono ?_; rintro e w' ⟨rfl, rfl⟩) | (go_at_call 54; with_reducible refine (l1In_c _ _ _ _ _ hc).mono ?_; rintro e w' ⟨rfl, rfl⟩))
   go_ret
   exact ⟨rfl, ext_alloc (ext_refl _) _⟩
 rw [show okM m = (m.c != 0) by simp [okM, ha, hb, hc]]
 go_enter Try.func97, Try.ntmps97
 go_wp2_with (first | (go_at_call 54; with_reducible refine (l1In_c _ _ _ _ _ ha).mono ?_; rintro e w' ⟨rfl, rfl⟩) | (go_at_call 54; with_reducible refine (l1In_c _ _ _ _ _ hb).mono ?_; rintro e w' ⟨rfl, rfl⟩) | (go_at_call 54; with_reducible refine (l1In_c _ _ _ _ _ hc).mono ?_; rintro e w' ⟨rfl, rfl⟩))
 go_ret
 exact ⟨rfl, ext_alloc (ext_refl _) _⟩
set_option maxRecDepth 100000 in
set_option maxHeartbeats 1000000 in
theorem areMoves_any (A : Option Addr) (n c : Nat) (ms : List R3) (w : World) (hn : n ≤ 1048576) (h : Reads w w.heap.size 3 A n (rowsV3 ms)) :
 Calls Try.prog 48 #[.slice A n c] w (RetV (.bool (mvsB ms)) w) := by
 have hl := rows_len3 h
 have H := Lib.hid h
 have HL := Lib.hid hl
 clear h
 by_cases h60 : (60 : Int) < n
 · have e : mvsB ms = false := by unfold mvsB; rw [hl, decide_eq_false (by omega)]; rfl
   rw [e]
   clear hl
   go_enter Try.func48, Try.ntmps48
   go_wp2
   go_ret
   exact ⟨rfl, ext_refl _⟩
 · have E := Lib.hid (show mvsB ms = ms.all okM by unfold mvsB; rw [hl, decide_eq_true (by omega)]; rfl)
   clear hl
   rw [E.out]
   go_enter Try.func48, Try.ntmps48
   go_wp2
   go_loopw [10] (fun i wr => ∃ k : Nat, k ≤ n ∧ i = .int .i64 k ∧ Hid (Below w.heap.size w wr) ∧ Hid ((ms.take k).all okM = true)) (fun i _ => n - (intOf i).toNat)
   case atStart => exact ⟨0, Nat.zero_le _, rfl, Lib.hid (ext_refl _), Lib.hid rfl⟩
   case round =>
    obtain ⟨k, hk, rfl, hbl, hok⟩ := hrel
    by_cases hlt : k < n
    · obtain ⟨r, hr⟩ := list_split (l := ms) (k := k) (by rw [HL.out]; exact hlt)
      obtain ⟨b, o, rfl, hb, c0, c1, c2⟩ := rows_at3 (rdx H.out hbl.out) hr
      have HISM := Lib.hid (fun w => IsBeadMove_any r w)
      cases hgd : okM r
      · rw [hgd] at HISM
        have hbad := Lib.hid (all_bad3 hr hgd)
        clear hr hgd
        go_wp2_with fail
        refine (HISM.out _).mono ?_
        rintro e w1 ⟨rfl, hb1⟩
        go_wp2
        go_ret
        exact ⟨ret_bool (by rw [hbad.out]), ext_trans (ext_alloc hbl.out _) hb1⟩
      · rw [hgd] at HISM
        have hgood := Lib.hid (all_snoc3 hok.out hr hgd)
        clear hr hgd
        go_wp2_with fail
        refine (HISM.out _).mono ?_
        rintro e w1 ⟨rfl, hb1⟩
        go_wp2
        go_roundw
        case rel => exact ⟨k + 1, by omega, by go_num, Lib.hid (ext_trans (ext_alloc hbl.out _) hb1), hgood⟩
        case measure => simp [intOf]; omega
    · obtain rfl : k = n := by omega
      have hall := Lib.hid (all_whole3 hok.out (by rw [HL.out]; exact Nat.le_refl _))
      go_wp2
      go_ret
      exact ⟨ret_bool (by rw [hall.out]), hbl.out⟩
set_option maxRecDepth 100000 in
set_option maxHeartbeats 1000000 in
theorem l4Good_any (A : Option Addr) (n c : Nat) (ms : List R3) (w : World) (hn : n ≤ 1048576) (h : Reads w w.heap.size 3 A n (rowsV3 ms)) :
 Calls Try.prog 77 #[.slice A n c] w (RetV (.bool (mvsB ms)) w) := by
 have hl := rows_len3 h
 have H := Lib.hid h
 have HL := Lib.hid hl
 have E := Lib.hid (show mvsB ms = (decide ((n : Int) ≤ 60) && ms.all okM) by
  unfold mvsB
  rw [hl, show decide (n ≤ 60) = decide ((n : Int) ≤ 60) from decide_eq_decide.2 (by omega)])
 clear h hl
 go_enter Try.func77, Try.ntmps77
 go_wp2
 go_loopw [3] (fun i wr => ∃ k : Nat, k ≤ n ∧ i = .int .i64 k ∧ Hid (Below w.heap.size w wr) ∧ Hid ((ms.take k).all okM = true)) (fun i _ => n - (intOf i).toNat)
 case atStart => exact ⟨0, Nat.zero_le _, rfl, Lib.hid (ext_refl _), Lib.hid rfl⟩
 case round =>
  obtain ⟨k, hk, rfl, hbl, hok⟩ := hrel
  by_cases hlt : k < n
  · obtain ⟨r, hr⟩ := list_split (l := ms) (k := k) (by rw [HL.out]; exact hlt)
    obtain ⟨b, o, rfl, hb, c0, c1, c2⟩ := rows_at3 (rdx H.out hbl.out) hr
    have HISM := Lib.hid (fun w => l4One_any r w)
    cases hgd : okM r
    · rw [hgd] at HISM
      have hbad := Lib.hid (all_bad3 hr hgd)
      clear hr hgd
      go_wp2_with fail
      refine (HISM.out _).mono ?_
      rintro e w1 ⟨rfl, hb1⟩
      go_wp2
      go_ret
      exact ⟨ret_bool (by rw [E.out, hbad.out, Bool.and_false]), ext_trans hbl.out hb1⟩
    · rw [hgd] at HISM
      have hgood := Lib.hid (all_snoc3 hok.out hr hgd)
      clear hr hgd
      go_wp2_with fail
      refine (HISM.out _).mono ?_
      rintro e w1 ⟨rfl, hb1⟩
      go_wp2
      go_roundw
      case rel => exact ⟨k + 1, by omega, by go_num, Lib.hid (ext_trans hbl.out hb1), hgood⟩
      case measure => simp [intOf]; omega
  · obtain rfl : k = n := by omega
    have hall := Lib.hid (all_whole3 hok.out (by rw [HL.out]; exact Nat.le_refl _))
    go_wp2
    go_ret
    exact ⟨ret_bool (by rw [E.out, hall.out, Bool.and_true]), hbl.out⟩
theorem areRecorded_any (A : Option Addr) (n c : Nat) (ms : List R3) (w : World) (hn : n ≤ 1048576) (h : Reads w w.heap.size 3 A n (rowsV3 ms)) :
 Calls Try.prog 37 #[.slice A n c] w (RetV (.bool (rcdB ms)) w) := by
 have hl := rows_len3 h
 have HM := Lib.hid (areMoves_any A n c ms w hn h)
 clear h
 by_cases h12 : (n : Int) ≤ 12
 · rw [show rcdB ms = mvsB ms by unfold rcdB; rw [hl, decide_eq_true (by omega)]; rfl]
   clear hl
   go_enter Try.func37, Try.ntmps37
   go_wp2_with fail
   refine HM.out.mono ?_
   rintro e w1 ⟨rfl, hb1⟩
   go_wp2
   go_ret
   exact ⟨rfl, hb1⟩
 · rw [show rcdB ms = false by unfold rcdB; rw [hl, decide_eq_false (by omega)]; rfl]
   clear hl
   go_enter Try.func37, Try.ntmps37
   go_wp2
   go_ret
   exact ⟨rfl, ext_refl _⟩
theorem l19Good_any (A : Option Addr) (n c : Nat) (ms : List R3) (w : World) (hn : n ≤ 1048576) (h : Reads w w.heap.size 3 A n (rowsV3 ms)) :
 Calls Try.prog 42 #[.slice A n c] w (RetV (.bool (rcdB ms)) w) := by
 have hl := rows_len3 h
 have HM := Lib.hid (l4Good_any A n c ms w hn h)
 clear h
 have E := Lib.hid (show rcdB ms = (mvsB ms && decide ((n : Int) ≤ 12)) by
  unfold rcdB
  rw [hl, Bool.and_comm, show decide (n ≤ 12) = decide ((n : Int) ≤ 12) from decide_eq_decide.2 (by omega)])
 clear hl
 cases hm : mvsB ms
 · rw [hm] at HM E
   clear hm
   go_enter Try.func42, Try.ntmps42
   go_wp2_with fail
   refine HM.out.mono ?_
   rintro e w1 ⟨rfl, hb1⟩
   go_wp2
   go_ret
   exact ⟨ret_bool (by rw [E.out]; rfl), hb1⟩
 · rw [hm] at HM E
   clear hm
   go_enter Try.func42, Try.ntmps42
   go_wp2_with fail
   refine HM.out.mono ?_
   rintro e w1 ⟨rfl, hb1⟩
   go_wp2
   go_ret
   exact ⟨ret_bool (by rw [E.out, Bool.true_and]), hb1⟩
/-- how many beads -/
def ab (z : Int) : Int := if z < 0 then -z else z
theorem ab_le {z : Int} (h : -1000 ≤ z ∧ z ≤ 1000) : 0 ≤ ab z ∧ ab z ≤ 1000 := by unfold ab; split <;> omega
def beads (ms : List R3) : Int := ms.foldl (fun s m => s + ab m.c) 0
theorem beads_take {ms : List R3} {k : Nat} {m : R3} (h : ms[k]? = some m) : beads (ms.take (k + 1)) = beads (ms.take k) + ab m.c := by
 unfold beads
 rw [List.take_add_one, h]
 simp [List.foldl_append]
theorem beads_all (ms : List R3) (k : Nat) (h : ms.length ≤ k) : beads (ms.take k) = beads ms := by rw [List.take_of_length_le h]
def smallM (ms : List R3) : Prop := ∀ m ∈ ms, -1000 ≤ m.c ∧ m.c ≤ 1000
theorem beads_bound {ms : List R3} (h : smallM ms) (k : Nat) : 0 ≤ beads (ms.take k) ∧ beads (ms.take k) ≤ 1000 * k := by
 induction k with
 | zero => simp [beads]
 | succ k ih =>
   rcases hm : ms[k]? with _ | m
   · rw [List.getElem?_eq_none_iff] at hm
     rw [List.take_of_length_le (by omega)]
     rw [List.take_of_length_le hm] at ih
     omega
   · rw [beads_take hm]
     have := ab_le (h m (List.mem_of_getElem? hm))
     omega
theorem abs_any (z : Int) (w : World) (h : -1000 ≤ z ∧ z ≤ 1000) : Calls Try.prog 53 #[.int .i64 z] w fun e w' => e = .returned (.int .i64 (ab z)) ∧ w = w' := by
 obtain ⟨h1, h2⟩ := h
 by_cases hz : z < 0
 · rw [show ab z = -z from if_pos hz]
   go_enter Try.func53, Try.ntmps53
   go_wp2
   go_ret
   exact ⟨rfl, rfl⟩
 · rw [show ab z = z from if_neg hz]
   go_enter Try.func53, Try.ntmps53
   go_wp2
   go_ret
   exact ⟨rfl, rfl⟩
theorem l1Most_ab (z : Int) (w : World) (h : -1000 ≤ z ∧ z ≤ 1000) : Calls Try.prog 55 #[.int .i64 z, .int .i64 (-z)] w fun e w' => e = .returned (.int .i64 (ab z)) ∧ Below w.heap.size w w' := by
 obtain ⟨h1, h2⟩ := h
 by_cases hz : -z < z
 · rw [show ab z = z from if_neg (by omega)]
   go_enter Try.func55, Try.ntmps55
   go_wp2
   go_ret
   exact ⟨rfl, ext_refl _⟩
 · rw [show ab z = -z by unfold ab; split <;> omega]
   go_enter Try.func55, Try.ntmps55
   go_wp2
   go_ret
   exact ⟨rfl, ext_refl _⟩
set_option maxRecDepth 100000 in
set_option maxHeartbeats 1000000 in
theorem beadsOf_any (A : Option Addr) (n c : Nat) (ms : List R3) (w : World) (hn : n ≤ 1048576) (hs : smallM ms) (h : Reads w w.heap.size 3 A n (rowsV3 ms)) :
 Calls Try.prog 39 #[.slice A n c] w (RetV (.int .i64 (beads ms)) w) := by
 have hl := rows_len3 h
 have H := Lib.hid h
 have HL := Lib.hid hl
 have HS := Lib.hid hs
 clear h hl hs
 go_enter Try.func39, Try.ntmps39
 go_wp2
 go_loopw [3, 8] (fun s i wr => ∃ k : Nat, k ≤ n ∧ i = .int .i64 k ∧ s = .int .i64 (beads (ms.take k)) ∧ Hid (Below w.heap.size w wr)) (fun _ i _ => n - (intOf i).toNat)
 case atStart => exact ⟨0, Nat.zero_le _, rfl, rfl, Lib.hid (ext_refl _)⟩
 case round =>
  obtain ⟨k, hk, rfl, rfl, hbl⟩ := hrel
  obtain ⟨m0, m1⟩ := beads_bound HS.out k
  by_cases hlt : k < n
  · obtain ⟨r, hr⟩ := list_split (l := ms) (k := k) (by rw [HL.out]; exact hlt)
    obtain ⟨b, o, rfl, hb, c0, c1, c2⟩ := rows_at3 (rdx H.out hbl.out) hr
    have hsm := HS.out r (List.mem_of_getElem? hr)
    have hab := ab_le hsm
    have hnew := Lib.hid (beads_take hr)
    obtain ⟨ab0, ab1⟩ := hab
    clear hr
    generalize beads (ms.take k) = M at *
    go_wp2_with fail
    refine (abs_any r.c _ hsm).mono ?_
    rintro e w1 ⟨rfl, rfl⟩
    go_wp2
    go_roundw
    case rel => exact ⟨k + 1, by omega, by go_num, by rw [hnew.out], Lib.hid (ext_alloc hbl.out _)⟩
    case measure => simp [intOf]; omega
  · obtain rfl : k = n := by omega
    have hall := Lib.hid (beads_all ms k (by rw [HL.out]; exact Nat.le_refl _))
    go_wp2
    go_ret
    exact ⟨ret_int (by rw [hall.out]), hbl.out⟩
set_option maxRecDepth 100000 in
set_option maxHeartbeats 1000000 in
theorem l4Beads_any (A : Option Addr) (n c : Nat) (ms : List R3) (w : World) (hn : n ≤ 1048576) (hs : smallM ms) (h : Reads w w.heap.size 3 A n (rowsV3 ms)) :
 Calls Try.prog 43 #[.slice A n c] w (RetV (.int .i64 (beads ms)) w) := by
 have hl := rows_len3 h
 have H := Lib.hid h
 have HL := Lib.hid hl
 have HS := Lib.hid hs
 clear h hl hs
 go_enter Try.func43, Try.ntmps43
 go_wp2
 go_loopw [3, 4] (fun s i wr => ∃ k : Nat, k ≤ n ∧ i = .int .i64 k ∧ s = .int .i64 (beads (ms.take k)) ∧ Hid (Below w.heap.size w wr)) (fun _ i _ => n - (intOf i).toNat)
 case atStart => exact ⟨0, Nat.zero_le _, rfl, rfl, Lib.hid (ext_refl _)⟩
 case round =>
  obtain ⟨k, hk, rfl, rfl, hbl⟩ := hrel
  obtain ⟨m0, m1⟩ := beads_bound HS.out k
  by_cases hlt : k < n
  · obtain ⟨r, hr⟩ := list_split (l := ms) (k := k) (by rw [HL.out]; exact hlt)
    obtain ⟨b, o, rfl, hb, c0, c1, c2⟩ := rows_at3 (rdx H.out hbl.out) hr
    have hsm := HS.out r (List.mem_of_getElem? hr)
    have hab := ab_le hsm
    have hnew := Lib.hid (beads_take hr)
    obtain ⟨ab0, ab1⟩ := hab
    obtain ⟨s0, s1⟩ := hsm
    clear hr
    generalize beads (ms.take k) = M at *
    go_wp2
    (refine wp_region_later (by kernel_rfl) (by kernel_rfl) ?_; (repeat (go_big_quiet_step (first | (go_at_call 55; with_reducible exact Calls.later_of (l1Most_ab r.c _ ⟨s0, s1⟩))))); refine wpQuiet_nil ?_; intro w1 hw1; obtain ⟨⟨wl, hbL⟩, hw1'⟩ := hw1; simp only at hw1'; subst hw1'; obtain ⟨hcL, hfL⟩ := bcell hbL)
    go_wp2
    go_roundw
    case rel => exact ⟨k + 1, by omega, by go_num, by rw [hnew.out], Lib.hid (ext_trans hbl.out hbL)⟩
    case measure => simp [intOf]; omega
  · obtain rfl : k = n := by omega
    have hall := Lib.hid (beads_all ms k (by rw [HL.out]; exact Nat.le_refl _))
    go_wp2
    go_ret
    exact ⟨ret_int (by rw [hall.out]), hbl.out⟩
end Go.Proofs.Ytphhelmcaehclaa
