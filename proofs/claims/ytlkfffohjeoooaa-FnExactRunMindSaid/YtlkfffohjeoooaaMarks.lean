
/- What the laws' helpers over slices of ints do: eqIntS, markIntS, heldIntS. -/
import Derived.Test.YtlkfffohjeoooaaMarksA
namespace Go.Proofs.Ytlkfffohjeoooaa
open Go.RowKit
set_option linter.unusedVariables false
set_option linter.unusedSimpArgs false
def intsV (zs : List Int) : List Value := zs.map (Value.int .i64)
theorem intsV_get {zs : List Int} {k : Nat} {z : Int} (h : zs[k]? = some z) : (intsV zs)[k]? = some (.int .i64 z) := by simp [intsV, h]
theorem ints_at {w : World} {B n : Nat} {A : Option Addr} {zs : List Int} (h : Reads w B 1 A n (intsV zs)) {k : Nat} {z : Int} (hz : zs[k]? = some z) :
    ∃ b o, A = some ⟨b, o, none⟩ ∧ b < B ∧ w.cell? ⟨b, o + k, none⟩ = some (.int .i64 z) := by
  have hk : k < zs.length := (List.getElem?_eq_some_iff.1 hz).1
  have hn : zs.length = n * 1 := by simpa [intsV] using h.1
  obtain ⟨b, o, hA, hb, hc⟩ := h.2 (by omega)
  exact ⟨b, o, hA, hb, hc _ _ (intsV_get hz)⟩
theorem ints_len {w : World} {B n : Nat} {A : Option Addr} {zs : List Int} (h : Reads w B 1 A n (intsV zs)) : zs.length = n := by
  have := h.1; simp [intsV] at this; omega
def eqI (r s : Int) : Bool := decide (r = s)
set_option maxHeartbeats 400000 in
theorem eqIntS_any (A A' : Option Addr) (n n' c c' : Nat) (l m : List Int) (w : World) (hn : n ≤ 1000000000) (hn' : n' ≤ 1000000000) (h : Reads w w.heap.size 1 A n (intsV l)) (h' : Reads w w.heap.size 1 A' n' (intsV m)) :
    Calls Try.prog 103 #[.slice A n c, .slice A' n' c'] w fun r w' => r = .returned (.bool (decide (l = m))) ∧ Below w.heap.size w w' := by
  have hl := ints_len h
  have hm := ints_len h'
  by_cases hne : n = n'
  · subst hne
    have H := Lib.hid h
    have H' := Lib.hid h'
    have HL := Lib.hid hl
    have HM := Lib.hid hm
    clear h h' hl hm
    go_enter Try.func103, Try.ntmps103
    go_wp2
    go_loopw [5] (fun i wr => ∃ k : Nat, k ≤ n ∧ i = .int .i64 k ∧ Below w.heap.size w wr ∧ Hid (l.take k = m.take k)) (fun i _ => n - (intOf i).toNat)
    case atStart => exact ⟨0, Nat.zero_le _, rfl, Below.refl _ _, Lib.hid rfl⟩
    case round =>
      obtain ⟨k, hk, rfl, hbl, heq⟩ := hrel
      by_cases hlt : k < n
      · obtain ⟨r, hr⟩ := list_split (l := l) (k := k) (by rw [HL.out]; exact hlt)
        obtain ⟨s, hs⟩ := list_split (l := m) (k := k) (by rw [HM.out]; exact hlt)
        obtain ⟨b, o, rfl, hb, c0⟩ := ints_at (H.out.ext hbl (Nat.le_refl _)) hr
        obtain ⟨b', o', rfl, hb', d0⟩ := ints_at (H'.out.ext hbl (Nat.le_refl _)) hs
        have hbw : b < wr.heap.size := Nat.lt_of_lt_of_le hb hbl.size
        have hbw' : b' < wr.heap.size := Nat.lt_of_lt_of_le hb' hbl.size
        have hsucc := Lib.hid (take_eq_succ heq.out hr hs)
        clear hr hs
        by_cases hrs : r = s
        · have hd : (r != s) = false := by simp [hrs]
          have hrs' := Lib.hid hrs
          clear hrs
          go_wp2
          (refine wp_region_later (by kernel_rfl) (by kernel_rfl) ?_; (repeat (go_big_quiet_step (fail))); refine wpQuiet_nil ?_; intro w1 hw1; obtain ⟨⟨wl, hbL⟩, hw1'⟩ := hw1; simp only at hw1'; subst hw1'; obtain ⟨hcL, hfL⟩ := bcell hbL)
          go_wp2
          go_roundw
          case rel => exact ⟨k + 1, by omega, by go_num, (by repeat (first | exact ext_refl _ | assumption | refine ext_alloc ?_ _ | refine ext_drew ?_ | refine ext_drewN ?_ _ | refine ext_set ?_ (by simp <;> omega) _ | refine ext_trans ?_ (by assumption))), Lib.hid (hsucc.out.2 hrs'.out)⟩
          case measure => simp [intOf]; omega
        · have hd : (r != s) = true := by simp [hrs]
          have hrs' := Lib.hid hrs
          clear hrs
          go_wp2
          (refine wp_region_later (by kernel_rfl) (by kernel_rfl) ?_; (repeat (go_big_quiet_step (fail))); refine wpQuiet_nil ?_; intro w1 hw1; obtain ⟨⟨wl, hbL⟩, hw1'⟩ := hw1; simp only at hw1'; subst hw1'; obtain ⟨hcL, hfL⟩ := bcell hbL)
          go_wp2
          go_ret
          refine ⟨ret_bool ?_, (by repeat (first | exact ext_refl _ | assumption | refine ext_alloc ?_ _ | refine ext_drew ?_ | refine ext_drewN ?_ _ | refine ext_set ?_ (by simp <;> omega) _ | refine ext_trans ?_ (by assumption)))⟩
          simp
          intro e
          exact hrs'.out (hsucc.out.1 (by rw [e]))
      · go_wp2
        go_ret
        obtain rfl : k = n := by omega
        refine ⟨ret_bool ?_, hbl⟩
        have := heq.out
        rw [List.take_of_length_le (by rw [HL.out]; exact Nat.le_refl _), List.take_of_length_le (by rw [HM.out]; exact Nat.le_refl _)] at this
        simpa using this
  · have h1 : ((n : Int) != n') = true := by simp; omega
    go_enter Try.func103, Try.ntmps103
    go_wp2
    go_ret
    refine ⟨ret_bool ?_, ext_refl _⟩
    have : ¬ (l = m) := fun e => hne (by rw [← hl, ← hm, e])
    simpa using this
set_option maxHeartbeats 400000 in
theorem markIntS_any (A : Option Addr) (n c base : Nat) (xs : List Value) (k0 : Int) (w : World) (hn : n ≤ 1000000000) (h0 : 0 ≤ k0) (h1 : k0 ≤ 1000000000) (h : w.ownsRow base 3 1 (.slice A n c) n xs) :
    Calls Try.prog 104 #[.slice A n c, .int .i64 k0] w fun e w' => e = .returned (.int .i64 (k0 + (n : Int))) ∧ w'.ownsRow base 3 1 (.slice A n c) n (marks k0 n) ∧ w.grownBy w' (Value.ownBlock (.slice A n c)) := by
  have hlen : xs.length = n := by have := h.1; omega
  have HL := Lib.hid hlen
  clear hlen
  go_enter Try.func104, Try.ntmps104
  go_wp2
  go_loopw [1, 5] (fun q i wr => ∃ k : Nat, k ≤ n ∧ i = .int .i64 k ∧ q = .int .i64 (k0 + (k : Int)) ∧ wr.ownsRow base 3 1 (.slice A n c) n (marks k0 k ++ xs.drop k) ∧ w.grownBy wr (Value.ownBlock (.slice A n c))) (fun _ i _ => n - (intOf i).toNat)
  case atStart => exact ⟨0, Nat.zero_le _, rfl, by go_num, by simpa [marks] using h, World.grownBy.refl _ _⟩
  case round =>
    obtain ⟨k, hk, rfl, rfl, hown, hg⟩ := hrel
    by_cases hlt : k < n
    · obtain ⟨g, cap, hv, hbg, hglt⟩ := hown.form (by omega)
      injection hv with hA _ hcap
      subst hA hcap
      have hcell : ∃ u, wr.cell? ⟨g, k, none⟩ = some u := by
        rw [hown.cellAt k (by omega)]
        exact list_split (by have := hown.1; omega)
      obtain ⟨u, hu⟩ := hcell
      have hf := hown.frozenAt k
      have hst := hown.stored k (.int .i64 (k0 + (k : Int)))
      rw [marks_set (by rw [HL.out]; exact hlt)] at hst
      go_wp2
      go_roundw
      case rel => exact ⟨k + 1, by omega, by go_num, by go_num, hst.1, only_setCell (g := g) (p := ⟨g, k, none⟩) hg (.inl rfl) _⟩
      case measure => simp [intOf]; omega
    · obtain rfl : k = n := by omega
      go_wp2
      go_ret
      exact ⟨rfl, by have hx := hown; rw [List.drop_of_length_le (by rw [HL.out]; exact Nat.le_refl _), List.append_nil] at hx; exact hx, hg⟩
theorem heldIntS_any (A : Option Addr) (n c : Nat) (k0 : Int) (w : World) (hn : n ≤ 1000000000) (h0 : 0 ≤ k0) (h1 : k0 ≤ 1000000000) (h : Reads w w.heap.size 1 A n (marks k0 n)) :
    Calls Try.prog 105 #[.slice A n c, .int .i64 k0] w fun e w' => e = .returned (.int .i64 (k0 + (n : Int))) ∧ w = w' := by
  have H := Lib.hid h
  clear h
  go_enter Try.func105, Try.ntmps105
  go_wp2
  go_loop [1, 5] (fun q i => ∃ k : Nat, k ≤ n ∧ i = .int .i64 k ∧ q = .int .i64 (k0 + (k : Int))) (fun _ i => n - (intOf i).toNat)
  case atStart => exact ⟨0, Nat.zero_le _, rfl, by go_num⟩
  case round =>
    obtain ⟨k, hk, rfl, rfl⟩ := hrel
    by_cases hlt : k < n
    · obtain ⟨b, o, rfl, hb, hc⟩ := H.out.2 (by omega)
      have hcell := hc _ _ (marks_get (k0 := k0) hlt)
      clear hc
      go_wp2
      go_round
      case rel => exact ⟨k + 1, by omega, by go_num, by go_num⟩
      case measure => simp [intOf]; omega
    · obtain rfl : k = n := by omega
      go_wp2
      go_ret
      exact ⟨rfl, rfl⟩
end Go.Proofs.Ytlkfffohjeoooaa
