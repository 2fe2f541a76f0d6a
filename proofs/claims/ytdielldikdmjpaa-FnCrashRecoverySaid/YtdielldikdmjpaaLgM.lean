/- The laws' helpers over slices of records. -/
import Derived.Test.YtdielldikdmjpaaLgT
import Derived.Test.YtdielldikdmjpaaLgR
namespace Go.Proofs.Ytdielldikdmjpaa
open Go.RowKit
set_option linter.unusedVariables false
set_option linter.unusedSimpArgs false
theorem recsV_get {l : List CR} {k : Nat} {r : CR} (h : l[k]? = some r) : (recsV l)[k * 2]? = some (.string r.1) ∧ (recsV l)[k * 2 + 1]? = some (.string r.2) :=
  ⟨flat_get recCells 2 (fun _ => rfl) l k 0 r h (by omega), flat_get recCells 2 (fun _ => rfl) l k 1 r h (by omega)⟩
theorem recs_len {w : World} {B n : Nat} {A : Option Addr} {l : List CR} (h : Reads w B 2 A n (recsV l)) : l.length = n := by
  have := h.1; rw [recsV_len] at this; omega
theorem recs_at {w : World} {B n : Nat} {A : Option Addr} {l : List CR} (h : Reads w B 2 A n (recsV l)) {k : Nat} {r : CR} (hr : l[k]? = some r) :
    ∃ b o, A = some ⟨b, o, none⟩ ∧ b < B ∧ w.cell? ⟨b, o + k * 2, none⟩ = some (.string r.1) ∧ w.cell? ⟨b, o + k * 2 + 1, none⟩ = some (.string r.2) := by
  have hk : k < l.length := (List.getElem?_eq_some_iff.1 hr).1
  have hn := recs_len h
  obtain ⟨b, o, hA, hb, hc⟩ := h.2 (by omega)
  obtain ⟨h0, h1⟩ := recsV_get hr
  exact ⟨b, o, hA, hb, hc _ _ h0, hc _ _ h1⟩
theorem eqRec_same (c r : ByteArray) (w : World) :
    Calls Try.prog 54 #[recV c r, recV c r] w fun e w' => e = .returned (.bool true) ∧ Below w.heap.size w w' := by
  go_enter Try.func54, Try.ntmps54
  go_wp2
  go_ret
  exact ⟨rfl, (by repeat (first | exact ext_refl _ | assumption | refine ext_alloc ?_ _ | refine ext_drew ?_ | refine ext_drewN ?_ _ | refine ext_set ?_ (by simp <;> omega) _ | refine ext_trans ?_ (by assumption)))⟩
theorem list_split {α : Type} {l : List α} {k : Nat} (h : k < l.length) : ∃ r, l[k]? = some r := ⟨l[k], List.getElem?_eq_getElem h⟩
set_option maxHeartbeats 1000000 in
theorem eqRecS_any (A A' : Option Addr) (n n' c c' : Nat) (l m : List CR) (w : World) (hn : n ≤ 1048576) (hlm : l = m) (h : Reads w w.heap.size 2 A n (recsV l)) (h' : Reads w w.heap.size 2 A' n' (recsV m)) :
    Calls Try.prog 35 #[.slice A n c, .slice A' n' c'] w fun r w' => r = .returned (.bool true) ∧ Below w.heap.size w w' := by
  subst hlm
  have hl := recs_len h
  have hm := recs_len h'
  obtain rfl : n = n' := by omega
  have H := Lib.hid h
  have H' := Lib.hid h'
  have HL := Lib.hid hl
  clear h h' hl hm
  go_enter Try.func35, Try.ntmps35
  go_wp2
  go_loopw [5] (fun i wr => ∃ k : Nat, k ≤ n ∧ i = .int .i64 k ∧ Below w.heap.size w wr) (fun i _ => n - (intOf i).toNat)
  case atStart => exact ⟨0, Nat.zero_le _, rfl, Below.refl _ _⟩
  case round =>
    obtain ⟨k, hk, rfl, hbl⟩ := hrel
    by_cases hlt : k < n
    · obtain ⟨r, hr⟩ := list_split (l := l) (k := k) (by rw [HL.out]; exact hlt)
      obtain ⟨b, o, rfl, hb, c0, c1⟩ := recs_at (H.out.ext hbl (Nat.le_refl _)) hr
      obtain ⟨b', o', rfl, hb', d0, d1⟩ := recs_at (H'.out.ext hbl (Nat.le_refl _)) hr
      clear hr
      have hbw : b < wr.heap.size := Nat.lt_of_lt_of_le hb hbl.size
      have hbw' : b' < wr.heap.size := Nat.lt_of_lt_of_le hb' hbl.size
      go_wp2
      (refine wp_region_later (by kernel_rfl) (by kernel_rfl) ?_; (repeat (go_big_quiet_step (first | (go_at_call 54; exact Calls.later_of (eqRec_same _ _ _))))); refine wpQuiet_nil ?_; intro w1 hw1; obtain ⟨⟨wl, hbL⟩, hw1'⟩ := hw1; simp only at hw1'; subst hw1'; obtain ⟨hcL, hfL⟩ := bcell hbL)
      go_wp2
      go_roundw
      case rel => exact ⟨k + 1, by omega, by go_num, (by repeat (first | exact ext_refl _ | assumption | refine ext_alloc ?_ _ | refine ext_drew ?_ | refine ext_drewN ?_ _ | refine ext_set ?_ (by simp <;> omega) _ | refine ext_trans ?_ (by assumption)))⟩
      case measure => simp [intOf]; omega
    · go_wp2
      go_ret
      exact ⟨rfl, hbl⟩
/-- what marking leaves in the cells -/
def mks (k0 n : Nat) : List Value := (List.range n).map fun (i : Nat) => Value.string (mkT (k0 + i))
theorem mks_len (k0 n : Nat) : (mks k0 n).length = n := by simp [mks]
theorem mks_get {k0 n j : Nat} (h : j < n) : (mks k0 n)[j]? = some (.string (mkT (k0 + j))) := by simp [mks, h]
theorem mks_set {k0 k q : Nat} {xs : List Value} (h : k < xs.length) (hq : q = k0 + k) : (mks k0 k ++ xs.drop k).set k (.string (mkT q)) = mks k0 (k + 1) ++ xs.drop (k + 1) := by
  rw [List.set_append_right _ _ (by rw [mks_len]; exact Nat.le_refl _), mks_len, Nat.sub_self, List.drop_eq_getElem_cons h, List.set_cons_zero, hq]
  simp [mks, List.range_succ]
theorem grown_ext {w w1 w2 : World} {row : Option Nat} (h : w.grownBy w1 row) (hb : Below w1.heap.size w1 w2) : w.grownBy w2 row :=
  ⟨hb.os.trans h.os, hb.tape.trans h.tape, hb.output.trans h.output, Nat.le_trans h.size hb.size, fun i hi hne => (hb.block i (Nat.lt_of_lt_of_le hi h.size)).trans (h.block i hi hne)⟩
set_option maxHeartbeats 1000000 in
theorem markRecS_any (A : Option Addr) (n c base : Nat) (xs : List Value) (k0 : Int) (q : Nat) (w : World) (hq : k0 = q) (hn : n ≤ 1000000) (h0 : 1 ≤ q) (h1 : q ≤ 1000000) (h : w.ownsRow base 26 2 (.slice A n c) n xs) :
    Calls Try.prog 36 #[.slice A n c, .int .i64 k0] w fun e w' => e = .returned (.int .i64 (k0 + (n : Int) * 2)) ∧ w'.ownsRow base 26 2 (.slice A n c) n (mks q (n * 2)) ∧ w.grownBy w' (Value.ownBlock (.slice A n c)) := by
  have hlen : xs.length = n * 2 := h.1
  have HL := Lib.hid hlen
  clear hlen
  subst hq
  go_enter Try.func36, Try.ntmps36
  go_wp2
  go_loopw [1, 5] (fun v i wr => ∃ k : Nat, k ≤ n ∧ i = .int .i64 k ∧ v = .int .i64 ((q : Int) + (k : Int) * 2) ∧ wr.ownsRow base 26 2 (.slice A n c) n (mks q (k * 2) ++ xs.drop (k * 2)) ∧ w.grownBy wr (Value.ownBlock (.slice A n c))) (fun _ i _ => n - (intOf i).toNat)
  case atStart => exact ⟨0, Nat.zero_le _, rfl, by go_num, by simpa [mks] using h, World.grownBy.refl _ _⟩
  case round =>
    obtain ⟨k, hk, rfl, rfl, hown, hg⟩ := hrel
    by_cases hlt : k < n
    · obtain ⟨g, cap, hv, hbg, hglt⟩ := hown.form (by omega)
      injection hv with hA _ hcap
      subst hA hcap
      have hm1 := Lib.hid (fun w => markText_any (q + k * 2) w (by omega) (by omega))
      have hm2 := Lib.hid (fun w => markText_any (q + k * 2 + 1) w (by omega) (by omega))
      rw [show (((q + k * 2 : Nat)) : Int) = (q : Int) + (k : Int) * 2 from by omega] at hm1
      rw [show (((q + k * 2 + 1 : Nat)) : Int) = (q : Int) + (k : Int) * 2 + 1 from by omega] at hm2
      go_wp2_with fail
      refine (hm1.out _).mono ?_
      rintro e w1 ⟨rfl, hb1⟩
      have ho1 := own_ext hown hb1
      obtain ⟨u0, x0⟩ : ∃ u, w1.cell? ⟨g, k * 2, none⟩ = some u := by rw [ho1.cellAt (k * 2) (by omega)]; exact list_split (by have := ho1.1; omega)
      have f0 := ho1.frozenAt (k * 2)
      have s0 := (ho1.stored (k * 2) (.string (mkT (q + k * 2)))).1
      rw [mks_set (k := k * 2) (by rw [HL.out]; omega) rfl] at s0
      go_wp2_with fail
      refine (hm2.out _).mono ?_
      rintro e w2 ⟨rfl, hb2⟩
      have ho2 := own_ext s0 hb2
      obtain ⟨u1, x1⟩ : ∃ u, w2.cell? ⟨g, k * 2 + 1, none⟩ = some u := by rw [ho2.cellAt (k * 2 + 1) (by omega)]; exact list_split (by have := ho2.1; omega)
      have f1 := ho2.frozenAt (k * 2 + 1)
      have s1 := (ho2.stored (k * 2 + 1) (.string (mkT (q + k * 2 + 1)))).1
      rw [mks_set (k := k * 2 + 1) (by rw [HL.out]; omega) (by omega)] at s1
      have hgg : w.grownBy (w2.setCell ⟨g, k * 2 + 1, none⟩ (.string (mkT (q + k * 2 + 1)))) (Value.ownBlock (.slice (some ⟨g, 0, none⟩) n c)) :=
        only_setCell (g := g) (p := ⟨g, k * 2 + 1, none⟩) (grown_ext (only_setCell (g := g) (p := ⟨g, k * 2, none⟩) (grown_ext hg hb1) (.inl rfl) _) hb2) (.inl rfl) _
      have S1 := Lib.hid s1
      have HG := Lib.hid hgg
      clear s1 s0 ho1 ho2 hgg hown hb1 hb2
      go_wp2
      go_roundw
      case rel =>
        refine ⟨k + 1, by omega, by go_num, by go_num, ?_, HG.out⟩
        rw [show (k + 1) * 2 = k * 2 + 1 + 1 from by omega]
        exact S1.out
      case measure => simp [intOf]; omega
    · obtain rfl : k = n := by omega
      go_wp2
      go_ret
      exact ⟨rfl, by have hx := hown; rw [List.drop_of_length_le (by rw [HL.out]; exact Nat.le_refl _), List.append_nil] at hx; exact hx, hg⟩
set_option maxHeartbeats 1000000 in
theorem heldRecS_any (A : Option Addr) (n c : Nat) (k0 : Int) (q : Nat) (w : World) (hq : k0 = q) (hn : n ≤ 1000000) (h0 : 1 ≤ q) (h1 : q ≤ 1000000) (h : Reads w w.heap.size 2 A n (mks q (n * 2))) :
    Calls Try.prog 37 #[.slice A n c, .int .i64 k0] w fun e w' => e = .returned (.int .i64 (k0 + (n : Int) * 2)) ∧ Below w.heap.size w w' := by
  have H := Lib.hid h
  clear h
  subst hq
  go_enter Try.func37, Try.ntmps37
  go_wp2
  go_loopw [1, 5] (fun v i wr => ∃ k : Nat, k ≤ n ∧ i = .int .i64 k ∧ v = .int .i64 ((q : Int) + (k : Int) * 2) ∧ Below w.heap.size w wr) (fun _ i _ => n - (intOf i).toNat)
  case atStart => exact ⟨0, Nat.zero_le _, rfl, by go_num, ext_refl _⟩
  case round =>
    obtain ⟨k, hk, rfl, rfl, hbl⟩ := hrel
    by_cases hlt : k < n
    · obtain ⟨b, o, rfl, hb, hc⟩ := (H.out.ext hbl (Nat.le_refl _)).2 (by omega)
      have d0 := hc _ _ (mks_get (k0 := q) (j := k * 2) (by omega))
      have d1 := hc _ _ (mks_get (k0 := q) (j := k * 2 + 1) (by omega))
      rw [show o + (k * 2 + 1) = o + k * 2 + 1 from by omega, show q + (k * 2 + 1) = q + k * 2 + 1 from by omega] at d1
      clear hc
      have hm1 := Lib.hid (fun w => markText_any (q + k * 2) w (by omega) (by omega))
      have hm2 := Lib.hid (fun w => markText_any (q + k * 2 + 1) w (by omega) (by omega))
      rw [show (((q + k * 2 : Nat)) : Int) = (q : Int) + (k : Int) * 2 from by omega] at hm1
      rw [show (((q + k * 2 + 1 : Nat)) : Int) = (q : Int) + (k : Int) * 2 + 1 from by omega] at hm2
      generalize mkT (q + k * 2) = M0 at d0 hm1
      generalize mkT (q + k * 2 + 1) = M1 at d1 hm2
      have hbw : b < wr.heap.size := Nat.lt_of_lt_of_le hb hbl.size
      go_wp2
      (refine wp_region_later (by kernel_rfl) (by kernel_rfl) ?_; (repeat (go_big_quiet_step (first | (go_at_call 55; exact Calls.later_of (hm1.out _))))); refine wpQuiet_nil ?_; intro w1 hw1; obtain ⟨⟨wl, hbL⟩, hw1'⟩ := hw1; simp only at hw1'; subst hw1'; obtain ⟨hcL, hfL⟩ := bcell hbL)
      have hbw1 : b < w1.heap.size := Nat.lt_of_lt_of_le hbw hbL.size
      have hbl1 := ext_trans hbl hbL
      clear hbL
      go_wp2
      (refine wp_region_later (by kernel_rfl) (by kernel_rfl) ?_; (repeat (go_big_quiet_step (first | (go_at_call 55; exact Calls.later_of (hm2.out _))))); refine wpQuiet_nil ?_; intro w1 hw1; obtain ⟨⟨wl, hbL⟩, hw1'⟩ := hw1; simp only at hw1'; subst hw1'; obtain ⟨hcL, hfL⟩ := bcell hbL)
      have hbl2 := ext_trans hbl1 hbL
      go_wp2
      go_roundw
      case rel => exact ⟨k + 1, by omega, by go_num, by go_num, hbl2⟩
      case measure => simp [intOf]; omega
    · obtain rfl : k = n := by omega
      go_wp2
      go_ret
      exact ⟨rfl, hbl⟩
end Go.Proofs.Ytdielldikdmjpaa
