
/- What the laws' helpers over consoles do. -/
import Derived.Test.YtclihlihaigddaaSchL
import Derived.Test.YtclihlihaigddaaLgT
namespace Go.Proofs.Ytclihlihaigddaa
open Go.RowKit
set_option linter.unusedVariables false
set_option linter.unusedSimpArgs false
abbrev conV (day : Int) (A : Option Addr) (n c : Nat) (pa le : Int) (d p : ByteArray) (z : Int) : Value := .agg #[.int .i64 day, .slice A n c, .int .i64 pa, .int .i64 le, .string d, .string p, .int .i64 z]
set_option maxHeartbeats 1000000 in
theorem eqConsole_same (day pa le : Int) (d p : ByteArray) (z : Int) (A B : Option Addr) (n c c' : Nat) (l : List R5) (w : World) (hn : n ≤ 1048576) (h : Reads w w.heap.size 5 A n (rowsV l)) (h' : Reads w w.heap.size 5 B n (rowsV l)) :
    Calls Try.prog 17 #[conV day A n c pa le d p z, conV day B n c' pa le d p z] w fun e w' => e = .returned (.bool true) ∧ Below w.heap.size w w' := by
  have HE := Lib.hid (fun (w : World) h h' => eqSchool_same day pa le A B n c c' l w hn h h')
  have HG := Lib.hid (fun w => eqLog_same d p z w)
  have H := Lib.hid h
  have H' := Lib.hid h'
  clear h h'
  go_enter Try.func17, Try.ntmps17
  go_wp2_with fail
  refine (HE.out _ ((H.out.ext (ext_alloc (ext_alloc (ext_refl _) _) _) (Nat.le_refl _)).more (by simp; omega)) ((H'.out.ext (ext_alloc (ext_alloc (ext_refl _) _) _) (Nat.le_refl _)).more (by simp; omega))).mono ?_
  rintro e w1 ⟨rfl, hb1⟩
  obtain ⟨hc1, hf1⟩ := bcell hb1
  have z1 : w.heap.size + 1 < w1.heap.size := by (have := hb1.size; simp at this; omega)
  have z2 : w.heap.size < w1.heap.size := by omega
  have b1 := Lib.hid (ext_trans (ext_alloc (ext_alloc (ext_refl w) _) _) hb1)
  clear hb1
  go_wp2_with fail
  refine (HG.out _).mono ?_
  rintro e w2 ⟨rfl, hb2⟩
  have b2 := Lib.hid (ext_trans b1.out hb2)
  clear hb2
  go_wp2
  go_ret
  exact ⟨rfl, b2.out⟩
theorem markConsole_any (day pa le : Int) (d p : ByteArray) (z : Int) (A : Option Addr) (n c base : Nat) (xs : List Value) (k0 : Int) (w : World) (hn : n ≤ 100000000) (h0 : 0 ≤ k0) (h1 : k0 ≤ 1000000000) (h : w.ownsRow base 109 5 (.slice A n c) n xs) :
    Calls Try.prog 18 #[conV day A n c pa le d p z, .int .i64 k0] w fun e w' => e = .returned (.int .i64 (k0 + (n : Int) * 5)) ∧ w'.ownsRow base 109 5 (.slice A n c) n (marks k0 (n * 5)) ∧ w.grownBy w' (Value.ownBlock (.slice A n c)) := by
  have H := Lib.hid h
  clear h
  go_enter Try.func18, Try.ntmps18
  go_wp2_with fail
  refine (markSchool_any day pa le A n c base xs k0 _ hn h0 h1 (own_ext H.out (ext_alloc (ext_refl _) _))).mono ?_
  rintro e w1 ⟨rfl, h1, h2⟩
  have h1 := Lib.hid h1
  have h2 := Lib.hid (gr_alloc2 h2)
  go_wp2
  go_ret
  exact ⟨rfl, h1.out, h2.out⟩
theorem heldConsole_any (day pa le : Int) (d p : ByteArray) (z : Int) (A : Option Addr) (n c : Nat) (k0 : Int) (w : World) (hn : n ≤ 100000000) (h0 : 0 ≤ k0) (h1 : k0 ≤ 1000000000) (h : Reads w w.heap.size 5 A n (marks k0 (n * 5))) :
    Calls Try.prog 19 #[conV day A n c pa le d p z, .int .i64 k0] w fun e w' => e = .returned (.int .i64 (k0 + (n : Int) * 5)) ∧ Below w.heap.size w w' := by
  have H := Lib.hid h
  have hneg : ¬ k0 + (n : Int) * 5 < 0 := by omega
  clear h
  go_enter Try.func19, Try.ntmps19
  go_wp2_with fail
  refine (heldSchool_any day pa le A n c k0 _ hn h0 h1 ((H.out.ext (ext_alloc (ext_refl _) _) (Nat.le_refl _)).more (by simp))).mono ?_
  rintro e w1 ⟨rfl, hb1⟩
  have b1 := Lib.hid (ext_trans (ext_alloc (ext_refl w) _) hb1)
  clear hb1
  go_wp2
  go_ret
  exact ⟨rfl, b1.out⟩
def OwnCon (day pa le : Int) (d p : ByteArray) (z : Int) (n : Nat) (l : List R5) (w : World) (e : Ending) (w' : World) : Prop :=
  ∃ A' c', e = .returned (conV day A' n c' pa le d p z) ∧ w'.ownsRow w.heap.size 109 5 (.slice A' n c') n (rowsV l) ∧ Below w.heap.size w w'
set_option maxHeartbeats 1000000 in
theorem toConsole_any (day pa le : Int) (d p : ByteArray) (z : Int) (A : Option Addr) (n c : Nat) (l : List R5) (w : World) (hn : n ≤ 1048576) (h : Reads w w.heap.size 5 A n (rowsV l)) :
    Calls Try.prog 22 #[conV day A n c pa le d p z] w (OwnCon day pa le d p z n l w) := by
  have H := Lib.hid h
  clear h
  go_enter Try.func22, Try.ntmps22
  go_wp2_with fail
  refine (toSchool_any day pa le A n c l _ hn ((H.out.ext (ext_alloc (ext_alloc (ext_alloc (ext_refl _) _) _) _) (Nat.le_refl _)).more (by simp; omega))).mono ?_
  rintro e w1 ⟨A1, c1, rfl, ho1, hb1⟩
  obtain ⟨hc1, hf1⟩ := bcell hb1
  have z0 : w.heap.size + 1 + 1 < w1.heap.size := by (have := hb1.size; simp at this; omega)
  have z1 : w.heap.size + 1 < w1.heap.size := by omega
  have z2 : w.heap.size < w1.heap.size := by omega
  have b1 := Lib.hid (ext_trans (ext_alloc (ext_alloc (ext_alloc (ext_refl w) _) _) _) hb1)
  have ho1 := Lib.hid (show w1.ownsRow (w.heap.size + 1 + 1 + 1) 109 5 (.slice A1 n c1) n (rowsV l) from by simpa using ho1)
  clear hb1
  go_wp2_with fail
  refine (toLog_any d p z _).mono ?_
  rintro e w2 ⟨rfl, hb2⟩
  obtain ⟨hc2, hf2⟩ := bcell hb2
  have y0 : w.heap.size + 1 + 1 < w2.heap.size := by (have := hb2.size; simp at this; omega)
  have y1 : w.heap.size + 1 < w2.heap.size := by omega
  have y2 : w.heap.size < w2.heap.size := by omega
  have HB2 := Lib.hid hb2
  clear hb2
  go_wp2
  refine bodyPost_ret (v := conV day A1 n c1 pa le d p z) (by simp [results, Try.results22, go_sem, *]) rfl ?_
  refine ⟨A1, c1, rfl, own_base (base := w.heap.size + 1 + 1 + 1) ?_ (by omega), ?_⟩
  · repeat (first | (with_reducible exact ho1.out) | (with_reducible refine own_set ?_ (by first | (show w.heap.size + 1 < w.heap.size + 1 + 1 + 1; omega) | (show w.heap.size + 1 + 1 < w.heap.size + 1 + 1 + 1; omega)) _) | refine own_ext ?_ HB2.out)
  · repeat (first | (with_reducible exact b1.out) | (with_reducible refine ext_set ?_ (by simp <;> omega) _) | refine ext_trans ?_ HB2.out)
theorem szConsole_any (day pa le : Int) (d p : ByteArray) (z : Int) (A : Option Addr) (n c : Nat) (hn : n ≤ 9223372036854775807) (hd : d.size ≤ 9223372036854775807) (hp : p.size ≤ 9223372036854775807) :
    ∃ s : Int, (0 ≤ s → n ≤ 1048576 ∧ d.size ≤ 1048576 ∧ p.size ≤ 1048576) ∧ ∀ w, Calls Try.prog 20 #[conV day A n c pa le d p z, .int .i64 1048576] w fun e w' => e = .returned (.int .i64 s) ∧ Below w.heap.size w w' := by
  by_cases h : (1048576 : Int) < n
  · refine ⟨-1, fun h => absurd h (by omega), fun w => ?_⟩
    have H := Lib.hid (fun w => szSchool_any day pa le A n c 1048576 w hn (by omega) (by omega))
    rw [szv_no h] at H
    go_enter Try.func20, Try.ntmps20
    go_wp2_with (go_at_call 43; refine (H.out _).mono ?_; rintro e w' ⟨rfl, hb⟩; obtain ⟨hc, hf⟩ := bcell hb; have hz : w.heap.size < w'.heap.size := by (have := hb.size; (try simp at this); omega))
    go_ret
    exact ⟨rfl, (by repeat (first | exact ext_refl _ | assumption | refine ext_alloc ?_ _ | refine ext_drew ?_ | refine ext_drewN ?_ _ | refine ext_set ?_ (by simp <;> omega) _ | refine ext_trans ?_ (by assumption)))⟩
  · have H := Lib.hid (fun w => szSchool_any day pa le A n c 1048576 w hn (by omega) (by omega))
    rw [szv_yes h] at H
    have h2 : ¬ (1048576 : Int) - n < 0 := by omega
    obtain ⟨S, hS⟩ : ∃ S, szRec (1048576 - n) d p = S := ⟨_, rfl⟩
    have HG := Lib.hid (fun w => szLog_any (1048576 - n) d p z w hd hp (by omega) (by omega))
    rw [hS] at HG
    by_cases hneg : S < 0
    · refine ⟨-1, fun h => absurd h (by omega), fun w => ?_⟩
      clear hS
      go_enter Try.func20, Try.ntmps20
      go_wp2_with (first | (go_at_call 43; refine (H.out _).mono ?_; rintro e w' ⟨rfl, hb⟩; obtain ⟨hc, hf⟩ := bcell hb; have hz : w.heap.size < w'.heap.size := by (have := hb.size; (try simp at this); omega)) | (go_at_call 26; refine (HG.out _).mono ?_; rintro e w' ⟨rfl, hb⟩; obtain ⟨hc, hf⟩ := bcell hb; have hz : w.heap.size < w'.heap.size := by (have := hb.size; (try simp at this); omega)))
      go_ret
      exact ⟨rfl, (by repeat (first | exact ext_refl _ | assumption | refine ext_alloc ?_ _ | refine ext_drew ?_ | refine ext_drewN ?_ _ | refine ext_set ?_ (by simp <;> omega) _ | refine ext_trans ?_ (by assumption)))⟩
    · refine ⟨S, fun _ => ?_, fun w => ?_⟩
      · unfold szRec at hS
        repeat' split at hS
        all_goals omega
      clear hS
      go_enter Try.func20, Try.ntmps20
      go_wp2_with (first | (go_at_call 43; refine (H.out _).mono ?_; rintro e w' ⟨rfl, hb⟩; obtain ⟨hc, hf⟩ := bcell hb; have hz : w.heap.size < w'.heap.size := by (have := hb.size; (try simp at this); omega)) | (go_at_call 26; refine (HG.out _).mono ?_; rintro e w' ⟨rfl, hb⟩; obtain ⟨hc, hf⟩ := bcell hb; have hz : w.heap.size < w'.heap.size := by (have := hb.size; (try simp at this); omega)))
      go_ret
      exact ⟨rfl, (by repeat (first | exact ext_refl _ | assumption | refine ext_alloc ?_ _ | refine ext_drew ?_ | refine ext_drewN ?_ _ | refine ext_set ?_ (by simp <;> omega) _ | refine ext_trans ?_ (by assumption)))⟩
end Go.Proofs.Ytclihlihaigddaa
