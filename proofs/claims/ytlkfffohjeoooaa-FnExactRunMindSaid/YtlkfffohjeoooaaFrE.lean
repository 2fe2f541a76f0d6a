
/- Beginning a worker; what can be added and taken; the digits of a number for the rods. -/
import Derived.Test.YtlkfffohjeoooaaFrD
import Derived.Test.YtlkfffohjeoooaaMarks
namespace Go.Proofs.Ytlkfffohjeoooaa
open Go.RowKit
set_option linter.unusedVariables false
set_option linter.unusedSimpArgs false
/-- what is read stays in a world that only has more -/
theorem rdx {w w' : World} {size n : Nat} {A : Option Addr} {xs : List Value} (h : Reads w w.heap.size size A n xs) (hb : Below w.heap.size w w') : Reads w' w'.heap.size size A n xs := (h.below hb).more hb.size
def goodB (u lo : Int) (l : List R2) : Bool := frB u lo l && stdB l
/-- nothing comes back but this -/
def RetV (v : Value) (w : World) (e : Ending) (w' : World) : Prop := e = .returned v ∧ Below w.heap.size w w'
/-- a worker comes back -/
def RetWk (w : World) (u lo : Int) (s : WS) (e : Ending) (w' : World) : Prop := ∃ g, e = .returned (.tuple #[.pointer (some ⟨g, 0, none⟩), .bool true]) ∧ Wk w' w.heap.size g u lo s ∧ Below w.heap.size w w'
theorem Wk.mono {w : World} {B B' g : Nat} {u lo : Int} {s : WS} (h : Wk w B g u lo s) (hB : B' ≤ B) : Wk w B' g u lo s := by
  obtain ⟨h, c, c', A, h1, h2, h3, h4⟩ := h
  exact ⟨h, c, c', A, h1, by omega, own_base h3 hB, own_base h4 hB⟩
theorem begin_no (u lo : Int) (A : Option Addr) (n c : Nat) (l : List R2) (w : World) (hn : n ≤ 1048576) (h : Reads w w.heap.size 2 A n (rowsV2 l)) (hg : goodB u lo l = false) :
    Calls Try.prog 134 #[frV u lo A n c] w (RetV (.tuple #[.pointer none, .bool false]) w) := by
  have H := Lib.hid h
  clear h
  cases hf : frB u lo l
  · have hg := Lib.hid hg
    go_enter Try.func134, Try.ntmps134
    go_wp2_with fail
    refine (isFrame_any u lo A n c l _ hn (rdx H.out (ext_alloc (ext_refl w) _))).mono ?_
    rw [hf]
    rintro e w1 ⟨rfl, hb1⟩
    go_wp2
    go_ret2
    exact ⟨rfl, (by repeat (first | exact ext_refl _ | assumption | refine ext_alloc ?_ _ | refine ext_drew ?_ | refine ext_drewN ?_ _ | refine ext_set ?_ (by simp <;> omega) _ | refine ext_trans ?_ (by assumption)))⟩
  · have hs : stdB l = false := by simpa [goodB, hf] using hg
    have hg := Lib.hid hg
    go_enter Try.func134, Try.ntmps134
    go_wp2_with fail
    refine (isFrame_any u lo A n c l _ hn (rdx H.out (ext_alloc (ext_refl w) _))).mono ?_
    rw [hf]
    rintro e w1 ⟨rfl, hb1⟩
    have hb2 := ext_trans (ext_alloc (ext_refl w) _) hb1
    obtain ⟨hc, hff⟩ := bcell hb1
    have hz : w.heap.size < w1.heap.size := by have := hb1.size; simp at this; omega
    go_wp2_with fail
    refine (standard_any u lo A n c l _ hn (rdx H.out hb2)).mono ?_
    rw [hs]
    rintro e w3 ⟨rfl, hb3⟩
    go_wp2
    go_ret2
    exact ⟨rfl, ext_trans hb2 hb3⟩
set_option maxRecDepth 100000 in
theorem begin_yes (u lo : Int) (A : Option Addr) (n c : Nat) (l : List R2) (w : World) (hn : n ≤ 1048576) (h : Reads w w.heap.size 2 A n (rowsV2 l)) (hg : goodB u lo l = true) :
    Calls Try.prog 134 #[frV u lo A n c] w (RetWk w u lo ⟨dsOf l, [], 0⟩) := by
  have hl := rows_len2 h
  obtain ⟨hf, hs⟩ : frB u lo l = true ∧ stdB l = true := by simpa [goodB] using hg
  have hn1 := (frB_head hf).2.2.1
  rw [hl] at hn1
  have HL := Lib.hid (show (dsOf l).length = n by rw [dsOf_len, hl])
  have HR := Lib.hid (rodsD_dsOf hf hs)
  have H := Lib.hid h
  have hg := Lib.hid hg
  clear h hl
  go_enter Try.func134, Try.ntmps134
  go_wp2_with fail
  refine (isFrame_any u lo A n c l _ hn (rdx H.out (ext_alloc (ext_refl w) _))).mono ?_
  rw [hf]
  rintro e w1 ⟨rfl, hb1⟩
  have hb2 := Lib.hid (ext_trans (ext_alloc (ext_refl w) _) hb1)
  have BF1 := Lib.hid ((Blk.born w #[.int .i64 u, .int .i64 lo, .slice A n c] 29 rfl).ext hb1)
  obtain ⟨a0, a1, a2⟩ := BF1.out.q3
  clear hb1
  go_wp2_with fail
  refine (standard_any u lo A n c l _ hn (rdx H.out hb2.out)).mono ?_
  rw [hs]
  rintro e w3 ⟨rfl, hb3⟩
  have hb4 := Lib.hid (ext_trans hb2.out hb3)
  have BF3 := Lib.hid (BF1.out.ext hb3)
  obtain ⟨a0', a1', a2'⟩ := BF3.out.q3
  clear hb3 a0 a1 a2
  go_wp2_with fail
  refine (own_fr u lo A n c l _ hn1 hn (rdx H.out hb4.out)).mono ?_
  rintro e w5 ⟨g, c', rfl, hr, hb5⟩
  have hr := Lib.hid (own_base hr hb4.out.size)
  have hb6 := Lib.hid (ext_trans hb4.out hb5)
  clear hb5 a0' a1' a2'
  go_wp2
  go_ret2
  refine ⟨_, rfl, ⟨g, c', 0, none, ?_, hb6.out.size, ?_, ?_⟩, ext_alloc hb6.out _⟩
  · rw [HL.out]; exact Blk.born _ _ _ rfl
  · rw [HL.out, HR.out]; exact hr.out.alloc _
  · exact World.ownsRow_nil _ _ _ _
theorem fitsOn_b (u lo : Int) (A : Option Addr) (n c : Nat) (m : Int) (b : Bool) (w : World) (hn : n ≤ 8) (hb : inB m 0 (pw n - 1) = b) :
    Calls Try.prog 124 #[frV u lo A n c, .int .i64 m] w fun e w' => e = .returned (.bool b) ∧ Below w.heap.size w w' := by
  subst hb
  exact fitsOn_any u lo A n c m w hn
/-- what can be added -/
def canB (l : List R2) (m : Int) : Bool := inB m 0 (pw l.length - 1) && inB (numR l + m) 0 (pw l.length - 1)
set_option maxRecDepth 100000 in
theorem canAdd_any (u lo : Int) (A : Option Addr) (n c : Nat) (l : List R2) (m : Int) (w : World) (hf : frB u lo l = true) (h : Reads w w.heap.size 2 A n (rowsV2 l)) :
    Calls Try.prog 189 #[frV u lo A n c, .int .i64 m] w (RetV (.bool (canB l m)) w) := by
  have hl := rows_len2 h
  have hn8 := (frB_head hf).2.2.2
  rw [hl] at hn8
  have hp0 := pw_pos n
  have hp1 := pw_lt hn8
  have hnb := numR_bounds hf l.length
  rw [numR_all l _ (Nat.le_refl _)] at hnb
  have H := Lib.hid h
  have HF := Lib.hid hf
  have E : Hid (canB l m = (inB m 0 (pw n - 1) && inB (numR l + m) 0 (pw n - 1))) := Lib.hid (by rw [← hl]; rfl)
  clear h hl hf
  cases hb : inB m 0 (pw n - 1)
  · go_enter Try.func189, Try.ntmps189
    go_wp2_with fail
    (refine wp_region_later (by kernel_rfl) (by kernel_rfl) ?_; (repeat (go_big_quiet_step (first | (go_at_call 124; with_reducible exact Calls.later_of (fitsOn_b u lo A n c m _ _ hn8 hb))))); refine wpQuiet_nil ?_; intro w1 hw1; obtain ⟨⟨wl, hbL⟩, hw1'⟩ := hw1; simp only at hw1'; subst hw1'; obtain ⟨hcL, hfL⟩ := bcell hbL)
    go_wp2
    go_ret
    exact ⟨ret_bool (by rw [E.out, hb]; rfl), (by repeat (first | exact ext_refl _ | assumption | refine ext_alloc ?_ _ | refine ext_drew ?_ | refine ext_drewN ?_ _ | refine ext_set ?_ (by simp <;> omega) _ | refine ext_trans ?_ (by assumption)))⟩
  · have hm := inB_iff.1 hb
    obtain ⟨m0, m1⟩ := hm
    obtain ⟨n0, n1⟩ := hnb
    go_enter Try.func189, Try.ntmps189
    go_wp2_with fail
    (refine wp_region_later (by kernel_rfl) (by kernel_rfl) ?_; (repeat (go_big_quiet_step (first | (go_at_call 124; with_reducible exact Calls.later_of (fitsOn_b u lo A n c m _ _ hn8 hb)) | (go_at_call 124; exact Calls.later_of (fitsOn_any u lo A n c _ _ hn8)) | (go_at_call 126; exact Calls.later_of (number_any u lo A n c l _ HF.out (rdx (rdx H.out (ext_alloc (ext_refl w) _)) (Later.h _))))))); refine wpQuiet_nil ?_; intro w1 hw1; obtain ⟨⟨wl, hbL⟩, hw1'⟩ := hw1; simp only at hw1'; subst hw1'; obtain ⟨hcL, hfL⟩ := bcell hbL)
    go_wp2
    go_ret
    exact ⟨ret_bool (by rw [E.out, hb]; rfl), (by repeat (first | exact ext_refl _ | assumption | refine ext_alloc ?_ _ | refine ext_drew ?_ | refine ext_drewN ?_ _ | refine ext_set ?_ (by simp <;> omega) _ | refine ext_trans ?_ (by assumption)))⟩
theorem canTake_any (u lo : Int) (A : Option Addr) (n c : Nat) (l : List R2) (m : Int) (w : World) (hf : frB u lo l = true) (h : Reads w w.heap.size 2 A n (rowsV2 l)) :
    Calls Try.prog 192 #[frV u lo A n c, .int .i64 m] w (RetV (.bool (inB m 0 (numR l))) w) := by
  have H := Lib.hid h
  have HF := Lib.hid hf
  clear h hf
  go_enter Try.func192, Try.ntmps192
  go_wp2_with fail
  refine (number_any u lo A n c l _ HF.out (rdx H.out (ext_alloc (ext_refl w) _))).mono ?_
  rintro e w1 ⟨rfl, hb1⟩
  go_wp2_with (go_at_call 123; refine (inB_within _ _ _ _).mono ?_; rintro e w' ⟨rfl, rfl⟩)
  go_ret
  exact ⟨rfl, ext_trans (ext_alloc (ext_refl w) _) hb1⟩
end Go.Proofs.Ytlkfffohjeoooaa
