/- Adding a digit, taking a digit: the worker's. -/
import Derived.Test.YtaghjaiaoajpiaaVFrC
import Derived.Test.YtaghjaiaoajpiaaVM1
import Derived.Test.YtaghjaiaoajpiaaVM3
import Derived.Deep.RegionLaw
namespace Go.Proofs.Ytaghjaiaoajpiaa
open Go.RowKit
set_option linter.unusedVariables false
set_option linter.unusedSimpArgs false
theorem addS_step {k : Nat} {d x : Int} {t : WS} (hx : t.ds[k]? = some x) (h : 0 < d) : addS (k + 1) d t = addS k ((x + d) / 10) ⟨t.ds.set k ((x + d) % 10), t.ms ++ turnM k x ((x + d) % 10), t.ask + if 0 < (x + d) / 10 then 1 else 0⟩ := by
 have e : t.ds.getD k 0 = x := by rw [List.getD_eq_getElem?_getD, hx]; rfl
 rw [addS_pos t h, e]
theorem AddFit.next {k : Nat} {d x : Int} {ds : List Int} (hx : ds[k]? = some x) (h : AddFit (k + 1) d ds) : AddFit k ((x + d) / 10) (ds.set k ((x + d) % 10)) := by
 have e : ds.getD k 0 = x := by rw [List.getD_eq_getElem?_getD, hx]; rfl
 have := h.step
 rwa [e] at this
theorem AddFit.zero {k : Nat} {ds : List Int} (h : AddFit k 0 ds) (hk : k < ds.length) : AddFit (k + 1) 0 ds := by
 obtain ⟨h1, h2, h3, h4, h5⟩ := h
 exact ⟨hk, h2, h3, h4, by simpa using h5⟩
theorem addS_zero (a b : Nat) (t : WS) : addS a 0 t = addS b 0 t := by rw [addS_none (r := a) t (by omega), addS_none (r := b) t (by omega)]
theorem takeS_step1 {k : Nat} {d x : Int} {t : WS} (hx : t.ds[k]? = some x) (h : 0 < d) (hd : d ≤ x) : takeS (k + 1) d t = ⟨t.ds.set k (x - d), t.ms ++ turnM k x (x - d), t.ask⟩ := by
 have e : t.ds.getD k 0 = x := by rw [List.getD_eq_getElem?_getD, hx]; rfl
 rw [takeS_in t h (by rw [e]; exact hd), e]
theorem takeS_step2 {k : Nat} {d x : Int} {t : WS} (hx : t.ds[k]? = some x) (h : 0 < d) (hd : ¬ d ≤ x) : takeS (k + 1) d t = takeS k 1 ⟨t.ds.set k (x - d + 10), t.ms ++ turnM k x (x - d + 10), t.ask + 1⟩ := by
 have e : t.ds.getD k 0 = x := by rw [List.getD_eq_getElem?_getD, hx]; rfl
 rw [takeS_left t h (by rw [e]; exact hd), e]
theorem TakeFit.next {k : Nat} {d x : Int} {ds : List Int} (hx : ds[k]? = some x) (h : TakeFit (k + 1) d ds) (hd : ¬ d ≤ x) : TakeFit k 1 (ds.set k (x - d + 10)) := by
 have e : ds.getD k 0 = x := by rw [List.getD_eq_getElem?_getD, hx]; rfl
 have := h.left (by rw [e]; exact hd)
 rwa [e] at this
theorem Wk.asked {w : World} {B g : Nat} {u lo z : Int} {s : WS} (h : Wk w B g u lo s) : Wk (w.setCell ⟨g, 4, none⟩ (.int .i64 z)) B g u lo ⟨s.ds, s.ms, z⟩ := by
 obtain ⟨h, c, c', A, h1, h2, h3, h4⟩ := h
 exact ⟨h, c, c', A, h1.set_ 4 _, h2, own_setF (p := ⟨g, 4, none⟩) h3 (own_nbT h3 h1 (by decide)) _, own_setF (p := ⟨g, 4, none⟩) h4 (own_nbT h4 h1 (by decide)) _⟩
theorem Wk.askedK {w0 w : World} {B g : Nat} {u lo z : Int} {s : WS} (h : Wk w B g u lo s) (hk : KeepT w0 w) : KeepT w0 (w.setCell ⟨g, 4, none⟩ (.int .i64 z)) := by
 obtain ⟨h, c, c', A, h1, _⟩ := h
 exact hk.set h1 (.inl rfl) 4 _
theorem Wk.ask_cell {w : World} {B g : Nat} {u lo : Int} {s : WS} (h : Wk w B g u lo s) : w.cell? ⟨g, 4, none⟩ = some (.int .i64 s.ask) ∧ w.frozen? ⟨g, 4, none⟩ = false := by
 obtain ⟨h, c, c', A, h1, _⟩ := h
 exact ⟨h1.c4, h1.frozen 4⟩
set_option maxRecDepth 100000 in
set_option maxHeartbeats 2000000 in
theorem add_any (B g : Nat) (u lo : Int) (s : WS) (r0 : Nat) (d0 : Int) (w : World) (hW : Wk w B g u lo s) (hf : AddFit (r0 + 1) d0 s.ds) (h8 : s.ds.length ≤ 8) (hms : s.ms.length ≤ 900000) (ha0 : 0 ≤ s.ask) (ha1 : s.ask ≤ 1000000) :
 Calls Try.prog 75 #[.pointer (some ⟨g, 0, none⟩), .int .i64 (r0 : Int), .int .i64 d0] w (Turned w B g u lo (addS (r0 + 1) d0 s)) := by
 have hlt := hW.lt
 have h9 := hf.1
 have HF := Lib.hid hf
 have HW := Lib.hid hW
 clear hf hW
 go_enter Try.func75, Try.ntmps75
 go_wp2
 go_loopw [1, 2] (fun i d wr => ∃ (r : Nat) (z e : Int) (t : WS), i = .int .i64 z ∧ z = (r : Int) - 1 ∧ d = .int .i64 e ∧ Hid (Wk wr B g u lo t) ∧ Hid (AddFit r e t.ds) ∧ Hid (addS r e t = addS (r0 + 1) d0 s) ∧ t.ds.length = s.ds.length ∧ Hid (0 < e → t.ms.length + 2 * r ≤ s.ms.length + 2 * (r0 + 1)) ∧ 0 ≤ t.ask ∧ t.ask + r ≤ s.ask + (r0 + 1) ∧ Below B w wr ∧ Hid (KeepT w wr)) (fun i d _ => (intOf i + 1).toNat + (intOf d).toNat)
 case atStart => exact ⟨r0 + 1, r0, d0, s, rfl, by omega, rfl, HW, HF, Lib.hid rfl, rfl, Lib.hid (fun _ => by omega), ha0, by omega, Below.refl _ _, Lib.hid (KeepT.refl _)⟩
 case round =>
  obtain ⟨r, z, e, t, rfl, hz, rfl, hWr, hfr, heq, hlen, hml, ht0, ht1, hbl, hkp⟩ := hrel
  by_cases he : 0 < e
  · obtain ⟨k, hrk, hk⟩ := hfr.out.rod he
    subst hrk
    have hzk : z = (k : Int) := by omega
    subst hzk
    clear hz
    obtain ⟨x, hx⟩ := list_split hk
    obtain ⟨x0, x9⟩ := hfr.out.2.2.2.1.get hx
    have e9 := hfr.out.2.2.1
    have hml := hml.out he
    have hnext := Lib.hid (hfr.out.next hx)
    have hstep := Lib.hid (addS_step (t := t) hx he)
    have HX := Lib.hid hx
    clear hx
    go_wp2_with fail
    refine (value_any B g u lo t k x _ hWr.out HX.out x0 x9).mono ?_
    rintro e1 w1 ⟨rfl, hb1⟩
    have hW1 := Lib.hid (hWr.out.ext hb1)
    have hk1 := Lib.hid (hkp.out.trans (KeepT.of_ext hb1))
    have hb1 := Lib.hid (hbl.trans (hb1.mono (by have := hbl.size; have := hWr.out.lt; omega)))
    have y0 : 0 ≤ (x + e) % 10 := by omega
    have y9 : (x + e) % 10 ≤ 9 := by omega
    go_wp2_with fail
    refine (turn_any B g u lo t k x ((x + e) % 10) _ hW1.out HX.out x0 x9 y0 y9 (by omega)).mono ?_
    rintro e2 w2 ⟨rfl, hW2, hb2, hk2⟩
    have hb2 := Lib.hid (hb1.out.trans hb2)
    have hk2 := Lib.hid (hk1.out.trans hk2)
    have hml2 := turnM_len k x ((x + e) % 10)
    obtain ⟨a4, f4⟩ := hW2.ask_cell
    have hW2 := Lib.hid hW2
    have hg2 := hW2.out.lt
    by_cases hc : 0 < (x + e) / 10
    · go_wp2
      go_roundw
      case rel => exact ⟨k, (k : Int) - 1, (x + e) / 10, ⟨t.ds.set k ((x + e) % 10), t.ms ++ turnM k x ((x + e) % 10), t.ask + 1⟩, rfl, rfl, rfl, Lib.hid hW2.out.asked, hnext, Lib.hid (by rw [← heq.out, hstep.out, if_pos hc]), by simpa using hlen, Lib.hid (fun _ => by simp only [List.length_append]; omega), by dsimp only; omega, by dsimp only; omega, hb2.out.setCell (p := ⟨g, 4, none⟩) hg2.1 _, Lib.hid (hW2.out.askedK hk2.out)⟩
      case measure => simp [intOf]; omega
    · have hw0 := Lib.hid (show (x + e) / 10 = 0 by omega)
      have hnx := hnext.out
      rw [hw0.out] at hnx
      have hnx := Lib.hid (hnx.zero (by rw [List.length_set]; exact hk))
      have hst := hstep.out
      rw [hw0.out, if_neg (by omega), Int.add_zero, addS_zero k (k + 1)] at hst
      have hst := Lib.hid hst
      go_wp2
      go_roundw
      case rel => exact ⟨k + 1, (k : Int), 0, ⟨t.ds.set k ((x + e) % 10), t.ms ++ turnM k x ((x + e) % 10), t.ask⟩, rfl, by omega, by rw [hw0.out], hW2, hnx, Lib.hid (by rw [← heq.out, hst.out]), by simpa using hlen, Lib.hid (fun h => by omega), by dsimp only; omega, by dsimp only; omega, hb2.out, hk2⟩
      case measure => have := hw0.out; simp [intOf]; omega
  · have hend := Lib.hid (addS_none (r := r) t he)
    go_wp2
    refine bodyPost_ret (v := .tuple #[]) (by simp [results, Try.results75, go_sem]) rfl ?_
    exact ⟨rfl, by rw [← heq.out, hend.out]; exact hWr.out, hbl, hkp.out⟩
end Go.Proofs.Ytaghjaiaoajpiaa
namespace Go.Proofs.Ytaghjaiaoajpiaa
open Go.RowKit
set_option linter.unusedVariables false
set_option linter.unusedSimpArgs false
/-- what is read stays in a world that only has more -/
theorem rdx {w w' : World} {size n : Nat} {A : Option Addr} {xs : List Value} (h : Reads w w.heap.size size A n xs) (hb : Below w.heap.size w w') : Reads w' w'.heap.size size A n xs := (h.below hb).more hb.size
def goodB (u lo : Int) (l : List R2) : Bool := frB u lo l && stdB l
/-- nothing comes back but this -/
def RetV (v : Value) (w : World) (e : Ending) (w' : World) : Prop := e = .returned v ∧ Below w.heap.size w w'
/-- a worker comes back -/
def RetWk (w : World) (u lo : Int) (s : WS) (e : Ending) (w' : World) : Prop := ∃ g, e = .returned (.tuple #[.pointer (some ⟨g, 0, none⟩), .bool true]) ∧ Wk w' w.heap.size g u lo s ∧ Below w.heap.size w w'
theorem Wk.mono {w : World} {B B' g : Nat} {u lo : Int} {s : WS} (h : Wk w B g u lo s) (hB : B' ≤ B) : Wk w B' g u lo s := by
 obtain ⟨h, c, c', A, h1, h2, h3, h4⟩ := h
 exact ⟨h, c, c', A, h1, by omega, own_base h3 hB, own_base h4 hB⟩
theorem begin_no (u lo : Int) (A : Option Addr) (n c : Nat) (l : List R2) (w : World) (hn : n ≤ 1048576) (h : Reads w w.heap.size 2 A n (rowsV2 l)) (hg : goodB u lo l = false) :
 Calls Try.prog 72 #[frV u lo A n c] w (RetV (.tuple #[.pointer none, .bool false]) w) := by
 have H := Lib.hid h
 clear h
 cases hf : frB u lo l
 · have hg := Lib.hid hg
   go_enter Try.func72, Try.ntmps72
   go_wp2_with fail
   refine (isFrame_any u lo A n c l _ hn (rdx H.out (ext_alloc (ext_refl w) _))).mono ?_
   rw [hf]
   rintro e w1 ⟨rfl, hb1⟩
   go_wp2
   go_ret2
   exact ⟨rfl, (by repeat (first | exact ext_refl _ | assumption | refine ext_alloc ?_ _ | refine ext_drew ?_ | refine ext_drewN ?_ _ | refine ext_set ?_ (by simp <;> omega) _ | refine ext_trans ?_ (by assumption)))⟩
 · have hs : stdB l = false := by simpa [goodB, hf] using hg
   have hg := Lib.hid hg
   go_enter Try.func72, Try.ntmps72
   go_wp2_with fail
   refine (isFrame_any u lo A n c l _ hn (rdx H.out (ext_alloc (ext_refl w) _))).mono ?_
   rw [hf]
   rintro e w1 ⟨rfl, hb1⟩
   have hb2 := ext_trans (ext_alloc (ext_refl w) _) hb1
   obtain ⟨hc, hff⟩ := bcell hb1
   have hz : w.heap.size < w1.heap.size := by have := hb1.size; simp at this; omega
   go_wp2_with fail
   refine (standard_any u lo A n c l _ hn (rdx H.out hb2)).mono ?_
   rw [hs]
   rintro e w3 ⟨rfl, hb3⟩
   go_wp2
   go_ret2
   exact ⟨rfl, ext_trans hb2 hb3⟩
set_option maxRecDepth 100000 in
theorem begin_yes (u lo : Int) (A : Option Addr) (n c : Nat) (l : List R2) (w : World) (hn : n ≤ 1048576) (h : Reads w w.heap.size 2 A n (rowsV2 l)) (hg : goodB u lo l = true) :
 Calls Try.prog 72 #[frV u lo A n c] w (RetWk w u lo ⟨dsOf l, [], 0⟩) := by
 have hl := rows_len2 h
 obtain ⟨hf, hs⟩ : frB u lo l = true ∧ stdB l = true := by simpa [goodB] using hg
 have hn1 := (frB_head hf).2.2.1
 rw [hl] at hn1
 have HL := Lib.hid (show (dsOf l).length = n by rw [dsOf_len, hl])
 have HR := Lib.hid (rodsD_dsOf hf hs)
 have H := Lib.hid h
 have hg := Lib.hid hg
 clear h hl
 go_enter Try.func72, Try.ntmps72
 go_wp2_with fail
 refine (isFrame_any u lo A n c l _ hn (rdx H.out (ext_alloc (ext_refl w) _))).mono ?_
 rw [hf]
 rintro e w1 ⟨rfl, hb1⟩
 have hb2 := Lib.hid (ext_trans (ext_alloc (ext_refl w) _) hb1)
 have BF1 := Lib.hid ((Blk.born w #[.int .i64 u, .int .i64 lo, .slice A n c] 26 rfl).ext hb1)
 obtain ⟨a0, a1, a2⟩ := BF1.out.q3
 clear hb1
 go_wp2_with fail
 refine (standard_any u lo A n c l _ hn (rdx H.out hb2.out)).mono ?_
 rw [hs]
 rintro e w3 ⟨rfl, hb3⟩
 have hb4 := Lib.hid (ext_trans hb2.out hb3)
 have BF3 := Lib.hid (BF1.out.ext hb3)
 obtain ⟨a0', a1', a2'⟩ := BF3.out.q3
 clear hb3 a0 a1 a2
 go_wp2_with fail
 refine (own_fr u lo A n c l _ hn1 hn (rdx H.out hb4.out)).mono ?_
 rintro e w5 ⟨g, c', rfl, hr, hb5⟩
 have hr := Lib.hid (own_base hr hb4.out.size)
 have hb6 := Lib.hid (ext_trans hb4.out hb5)
 clear hb5 a0' a1' a2'
 go_wp2
 go_ret2
 refine ⟨_, rfl, ⟨g, c', 0, none, ?_, hb6.out.size, ?_, ?_⟩, ext_alloc hb6.out _⟩
 · rw [HL.out]; exact Blk.born _ _ _ rfl
 · rw [HL.out, HR.out]; exact hr.out.alloc _
 · exact World.ownsRow_nil _ _ _ _
theorem fitsOn_b (u lo : Int) (A : Option Addr) (n c : Nat) (m : Int) (b : Bool) (w : World) (hn : n ≤ 8) (hb : inB m 0 (pw n - 1) = b) :
 Calls Try.prog 87 #[frV u lo A n c, .int .i64 m] w fun e w' => e = .returned (.bool b) ∧ Below w.heap.size w w' := by
 subst hb
 exact fitsOn_any u lo A n c m w hn
/-- what can be added -/
def canB (l : List R2) (m : Int) : Bool := inB m 0 (pw l.length - 1) && inB (numR l + m) 0 (pw l.length - 1)
set_option maxRecDepth 100000 in
theorem canAdd_any (u lo : Int) (A : Option Addr) (n c : Nat) (l : List R2) (m : Int) (w : World) (hf : frB u lo l = true) (h : Reads w w.heap.size 2 A n (rowsV2 l)) :
 Calls Try.prog 73 #[frV u lo A n c, .int .i64 m] w (RetV (.bool (canB l m)) w) := by
 have hl := rows_len2 h
 have hn8 := (frB_head hf).2.2.2
 rw [hl] at hn8
 have hp0 := pw_pos n
 have hp1 := pw_lt hn8
 have hnb := numR_bounds hf l.length
 rw [numR_all l _ (Nat.le_refl _)] at hnb
 have H := Lib.hid h
 have HF := Lib.hid hf
 have E : Hid (canB l m = (inB m 0 (pw n - 1) && inB (numR l + m) 0 (pw n - 1))) := Lib.hid (by rw [← hl]; rfl)
 clear h hl hf
 cases hb : inB m 0 (pw n - 1)
 · go_enter Try.func73, Try.ntmps73
   go_wp2_with fail
   (refine wp_region_later (by kernel_rfl) (by kernel_rfl) ?_; (repeat (go_big_quiet_step (first | (go_at_call 87; with_reducible exact Calls.later_of (fitsOn_b u lo A n c m _ _ hn8 hb))))); refine wpQuiet_nil ?_; intro w1 hw1; obtain ⟨⟨wl, hbL⟩, hw1'⟩ := hw1; simp only at hw1'; subst hw1'; obtain ⟨hcL, hfL⟩ := bcell hbL)
   go_wp2
   go_ret
   exact ⟨ret_bool (by rw [E.out, hb]; rfl), (by repeat (first | exact ext_refl _ | assumption | refine ext_alloc ?_ _ | refine ext_drew ?_ | refine ext_drewN ?_ _ | refine ext_set ?_ (by simp <;> omega) _ | refine ext_trans ?_ (by assumption)))⟩
 · have hm := inB_iff.1 hb
   obtain ⟨m0, m1⟩ := hm
   obtain ⟨n0, n1⟩ := hnb
   go_enter Try.func73, Try.ntmps73
   go_wp2_with fail
   (refine wp_region_later (by kernel_rfl) (by kernel_rfl) ?_; (repeat (go_big_quiet_step (first | (go_at_call 87; with_reducible exact Calls.later_of (fitsOn_b u lo A n c m _ _ hn8 hb)) | (go_at_call 87; exact Calls.later_of (fitsOn_any u lo A n c _ _ hn8)) | (go_at_call 39; exact Calls.later_of (number_any u lo A n c l _ HF.out (rdx (rdx H.out (ext_alloc (ext_refl w) _)) (Later.h _))))))); refine wpQuiet_nil ?_; intro w1 hw1; obtain ⟨⟨wl, hbL⟩, hw1'⟩ := hw1; simp only at hw1'; subst hw1'; obtain ⟨hcL, hfL⟩ := bcell hbL)
   go_wp2
   go_ret
   exact ⟨ret_bool (by rw [E.out, hb]; rfl), (by repeat (first | exact ext_refl _ | assumption | refine ext_alloc ?_ _ | refine ext_drew ?_ | refine ext_drewN ?_ _ | refine ext_set ?_ (by simp <;> omega) _ | refine ext_trans ?_ (by assumption)))⟩
end Go.Proofs.Ytaghjaiaoajpiaa
namespace Go.Proofs.Ytaghjaiaoajpiaa
open Go.RowKit
set_option linter.unusedVariables false
set_option linter.unusedSimpArgs false
/-- the box of a frame, behind it only more -/
theorem box_frame {w wr : World} {u lo : Int} {A : Option Addr} {n c : Nat} (hb : Below (w.heap.size + 1) (w.alloc (.cells #[.int .i64 u, .int .i64 lo, .slice A n c] 26)) wr) :
 Blk wr w.heap.size 26 #[.int .i64 u, .int .i64 lo, .slice A n c] ∧ Below w.heap.size w wr ∧ w.heap.size < wr.heap.size := by
 have hs := hb.size
 simp at hs
 exact ⟨(Blk.born w _ _ rfl).below hb (by omega), ((ext_refl w).alloc (Nat.le_refl _) _).trans (hb.mono (Nat.le_succ _)), by omega⟩
theorem l1In_b (n lo hi : Int) (b : Bool) (w : World) (hb : inB n lo hi = b) :
 Calls Try.prog 37 #[.int .i64 n, .int .i64 lo, .int .i64 hi] w fun e w' => e = .returned (.bool b) ∧ Below w.heap.size w w' := by
 subst hb
 exact (inB_l1In n lo hi w).mono fun e w' ⟨h, hw⟩ => ⟨h, by rw [← hw]; exact ext_refl _⟩
set_option maxRecDepth 100000 in
set_option maxHeartbeats 1000000 in
theorem l2Good_any (u lo : Int) (A : Option Addr) (n c : Nat) (l : List R2) (w : World) (hn : n ≤ 1048576) (h : Reads w w.heap.size 2 A n (rowsV2 l)) :
 Calls Try.prog 36 #[frV u lo A n c] w (RetV (.bool (frB u lo l)) w) := by
 have hl := rows_len2 h
 have H := Lib.hid h
 have HL := Lib.hid hl
 clear h hl
 have E : Hid (frB u lo l = (inB u 1 2 && inB lo 4 5 && inB n 1 8 && l.all (rodB u lo))) := Lib.hid (by rw [← HL.out]; rfl)
 go_enter Try.func36, Try.ntmps36
 go_wp2
 go_loopw [3] (fun i wr => ∃ k : Nat, k ≤ n ∧ i = .int .i64 k ∧ Hid (Below (w.heap.size + 1) (w.alloc (.cells #[.int .i64 u, .int .i64 lo, .slice A n c] 26)) wr) ∧ Hid ((l.take k).all (rodB u lo) = true)) (fun i _ => n - (intOf i).toNat)
 case atStart => exact ⟨0, Nat.zero_le _, rfl, Lib.hid (Below.refl _ _), Lib.hid rfl⟩
 case round =>
  obtain ⟨k, hk, rfl, hbl, hok⟩ := hrel
  obtain ⟨BF, hb0, hs0⟩ := box_frame hbl.out
  have hb0 := Lib.hid hb0
  obtain ⟨d0, d1, d2⟩ := BF.q3
  clear BF
  by_cases hlt : k < n
  · obtain ⟨r, hr⟩ := list_split (l := l) (k := k) (by rw [HL.out]; exact hlt)
    obtain ⟨b, o, rfl, hb, c0, c1⟩ := rows_at2 (rdx H.out hb0.out) hr
    cases ha : inB r.a 0 u
    · have hbad := Lib.hid (all_bad (p := rodB u lo) hr (by simp [rodB, ha]))
      clear hr
      go_wp2
      (refine wp_region_later (by kernel_rfl) (by kernel_rfl) ?_; (repeat (go_big_quiet_step (first | (go_at_call 37; with_reducible exact Calls.later_of (l1In_b _ _ _ _ _ ha))))); refine wpQuiet_nil ?_; intro w1 hw1; obtain ⟨⟨wl, hbL⟩, hw1'⟩ := hw1; simp only at hw1'; subst hw1'; obtain ⟨hcL, hfL⟩ := bcell hbL)
      have hb3 := Lib.hid (ext_trans hb0.out hbL)
      clear hbL hcL hfL
      go_wp2
      go_ret
      exact ⟨ret_bool (by rw [E.out, hbad.out]; simp), hb3.out⟩
    cases hb2 : inB r.b 0 lo
    · have hbad := Lib.hid (all_bad (p := rodB u lo) hr (by simp [rodB, ha, hb2]))
      clear hr
      go_wp2
      (refine wp_region_later (by kernel_rfl) (by kernel_rfl) ?_; (repeat (go_big_quiet_step (first | (go_at_call 37; with_reducible exact Calls.later_of (l1In_b _ _ _ _ _ ha)) | (go_at_call 37; with_reducible exact Calls.later_of (l1In_b _ _ _ _ _ hb2))))); refine wpQuiet_nil ?_; intro w1 hw1; obtain ⟨⟨wl, hbL⟩, hw1'⟩ := hw1; simp only at hw1'; subst hw1'; obtain ⟨hcL, hfL⟩ := bcell hbL)
      have hb3 := Lib.hid (ext_trans hb0.out hbL)
      clear hbL hcL hfL
      go_wp2
      go_ret
      exact ⟨ret_bool (by rw [E.out, hbad.out]; simp), hb3.out⟩
    have hgood := Lib.hid (all_snoc hok.out hr (by simp [rodB, ha, hb2]))
    clear hr
    go_wp2
    (refine wp_region_later (by kernel_rfl) (by kernel_rfl) ?_; (repeat (go_big_quiet_step (first | (go_at_call 37; with_reducible exact Calls.later_of (l1In_b _ _ _ _ _ ha)) | (go_at_call 37; with_reducible exact Calls.later_of (l1In_b _ _ _ _ _ hb2))))); refine wpQuiet_nil ?_; intro w1 hw1; obtain ⟨⟨wl, hbL⟩, hw1'⟩ := hw1; simp only at hw1'; subst hw1'; obtain ⟨hcL, hfL⟩ := bcell hbL)
    go_wp2
    go_roundw
    case rel => exact ⟨k + 1, by omega, by go_num, Lib.hid (hbl.out.trans (hbL.mono hs0)), hgood⟩
    case measure => simp [intOf]; omega
  · obtain rfl : k = n := by omega
    have hall := Lib.hid (all_whole hok.out (by rw [HL.out]; exact Nat.le_refl _))
    cases h1 : inB u 1 2
    · go_wp2_with (go_at_call 37; refine (inB_l1In _ _ _ _).mono ?_; rintro e w' ⟨rfl, rfl⟩)
      go_ret
      exact ⟨ret_bool (by rw [E.out, h1]; rfl), hb0.out⟩
    cases h2 : inB lo 4 5
    · go_wp2_with (go_at_call 37; refine (inB_l1In _ _ _ _).mono ?_; rintro e w' ⟨rfl, rfl⟩)
      go_ret
      exact ⟨ret_bool (by rw [E.out, h1, h2]; rfl), hb0.out⟩
    cases h3 : inB (k : Int) 1 8
    · go_wp2_with (go_at_call 37; refine (inB_l1In _ _ _ _).mono ?_; rintro e w' ⟨rfl, rfl⟩)
      go_ret
      exact ⟨ret_bool (by rw [E.out, h1, h2, h3]; rfl), hb0.out⟩
    go_wp2_with (go_at_call 37; refine (inB_l1In _ _ _ _).mono ?_; rintro e w' ⟨rfl, rfl⟩)
    go_ret
    exact ⟨ret_bool (by rw [E.out, h1, h2, h3, hall.out]; rfl), hb0.out⟩
theorem l2Value_any (r : R2) (w : World) (h : Sm r) :
 Calls Try.prog 82 #[r.val] w fun e w' => e = .returned (.int .i64 (dv r)) ∧ Below w.heap.size w w' := by
 obtain ⟨⟨h1, h2⟩, h3, h4⟩ := h
 go_enter Try.func82, Try.ntmps82
 go_wp2
 go_ret
 exact ⟨rfl, (by repeat (first | exact ext_refl _ | assumption | refine ext_alloc ?_ _ | refine ext_drew ?_ | refine ext_drewN ?_ _ | refine ext_set ?_ (by simp <;> omega) _ | refine ext_trans ?_ (by assumption)))⟩
theorem frB_Sm {u lo : Int} {l : List R2} (h : frB u lo l = true) {k : Nat} {r : R2} (hr : l[k]? = some r) : Sm r := by
 have h1 := frB_rod h hr
 have h2 := frB_head h
 unfold Sm
 omega
set_option maxHeartbeats 1000000 in
theorem l2Number_any (u lo : Int) (A : Option Addr) (n c : Nat) (l : List R2) (w : World) (hf : frB u lo l = true) (h : Reads w w.heap.size 2 A n (rowsV2 l)) :
 Calls Try.prog 71 #[frV u lo A n c] w fun e w' => e = .returned (.int .i64 (numR l)) ∧ Below w.heap.size w w' := by
 have hl := rows_len2 h
 obtain ⟨hu, hlo, hn1, hn8⟩ := frB_head hf
 rw [hl] at hn1 hn8
 have HF := Lib.hid hf
 have H := Lib.hid h
 have HL := Lib.hid hl
 clear h hl hf
 go_enter Try.func71, Try.ntmps71
 go_wp2
 go_loopw [3, 4] (fun s i wr => ∃ k : Nat, k ≤ n ∧ i = .int .i64 k ∧ s = .int .i64 (numR (l.take k)) ∧ Hid (Below (w.heap.size + 1) (w.alloc (.cells #[.int .i64 u, .int .i64 lo, .slice A n c] 26)) wr)) (fun _ i _ => n - (intOf i).toNat)
 case atStart => exact ⟨0, Nat.zero_le _, rfl, rfl, Lib.hid (Below.refl _ _)⟩
 case round =>
  obtain ⟨k, hk, rfl, rfl, hbl⟩ := hrel
  obtain ⟨BF, hb0, hs0⟩ := box_frame hbl.out
  have hb0 := Lib.hid hb0
  obtain ⟨d0, d1, d2⟩ := BF.q3
  clear BF
  obtain ⟨m0, m1⟩ := numR_bounds HF.out k
  by_cases hlt : k < n
  · obtain ⟨r, hr⟩ := list_split (l := l) (k := k) (by rw [HL.out]; exact hlt)
    obtain ⟨b, o, rfl, hb, c0, c1⟩ := rows_at2 (rdx H.out hb0.out) hr
    have hsm := frB_Sm HF.out hr
    obtain ⟨r1, r2, r3, r4⟩ := frB_rod HF.out hr
    have hnew := Lib.hid (numR_take hr)
    have hv0 : 0 ≤ dv r := by unfold dv; omega
    have hv1 : dv r ≤ 1000 := by unfold dv; omega
    have hdv := Lib.hid (show dv r = 5 * r.a + r.b from rfl)
    clear hr
    generalize numR (l.take k) = M at *
    go_wp2_with fail
    refine (l2Value_any r _ hsm).mono ?_
    rintro e w1 ⟨rfl, hb1⟩
    go_wp2
    go_roundw
    case rel => exact ⟨k + 1, by omega, by go_num, by rw [hnew.out, ← hdv.out], Lib.hid (hbl.out.trans (hb1.mono hs0))⟩
    case measure => simp [intOf]; omega
  · obtain rfl : k = n := by omega
    have hall := Lib.hid (numR_all l k (by rw [HL.out]; exact Nat.le_refl _))
    go_wp2
    go_ret
    exact ⟨ret_int (by rw [hall.out]), hb0.out⟩
theorem goodB_comm (u lo : Int) (l : List R2) : goodB u lo l = (stdB l && frB u lo l) := by unfold goodB; exact Bool.and_comm _ _
set_option maxHeartbeats 1000000 in
theorem l2Standard_any (u lo : Int) (A : Option Addr) (n c : Nat) (l : List R2) (w : World) (hn : n ≤ 1048576) (h : Reads w w.heap.size 2 A n (rowsV2 l)) :
 Calls Try.prog 69 #[frV u lo A n c] w (RetV (.bool (goodB u lo l)) w) := by
 have hl := rows_len2 h
 have H := Lib.hid h
 have HL := Lib.hid hl
 clear h hl
 go_enter Try.func69, Try.ntmps69
 go_wp2
 go_loopw [3] (fun i wr => ∃ k : Nat, k ≤ n ∧ i = .int .i64 k ∧ Hid (Below (w.heap.size + 1) (w.alloc (.cells #[.int .i64 u, .int .i64 lo, .slice A n c] 26)) wr) ∧ Hid ((l.take k).all stdR = true)) (fun i _ => n - (intOf i).toNat)
 case atStart => exact ⟨0, Nat.zero_le _, rfl, Lib.hid (Below.refl _ _), Lib.hid rfl⟩
 case round =>
  obtain ⟨k, hk, rfl, hbl, hok⟩ := hrel
  obtain ⟨BF, hb0, hs0⟩ := box_frame hbl.out
  have hb0 := Lib.hid hb0
  obtain ⟨d0, d1, d2⟩ := BF.q3
  clear BF
  by_cases hlt : k < n
  · obtain ⟨r, hr⟩ := list_split (l := l) (k := k) (by rw [HL.out]; exact hlt)
    obtain ⟨b, o, rfl, hb, c0, c1⟩ := rows_at2 (rdx H.out hb0.out) hr
    by_cases hgd : r.a ≤ 1 ∧ r.b ≤ 4
    · have hgood := Lib.hid (all_snoc hok.out hr (std_good hgd.1 hgd.2))
      obtain ⟨g1, g2⟩ := hgd
      clear hr
      go_wp2
      go_roundw
      case rel => exact ⟨k + 1, by omega, by go_num, hbl, hgood⟩
      case measure => simp [intOf]; omega
    · have hbad := Lib.hid (all_bad hr (std_bad hgd))
      clear hr
      go_wp2
      all_goals first
       | (go_ret; exact ⟨ret_bool (by rw [goodB_comm]; unfold stdB; rw [hbad.out]; rfl), hb0.out⟩)
       | (exfalso; omega)
  · obtain rfl : k = n := by omega
    have hall := Lib.hid (show goodB u lo l = frB u lo l by rw [goodB_comm]; unfold stdB; rw [all_whole hok.out (by rw [HL.out]; exact Nat.le_refl _)]; rfl)
    go_wp2_with fail
    refine (l2Good_any u lo A k c l _ hn (rdx H.out hb0.out)).mono ?_
    rw [← hall.out]
    rintro e w1 ⟨rfl, hb1⟩
    go_wp2
    go_ret
    exact ⟨rfl, ext_trans hb0.out hb1⟩
theorem l2Power_any (z : Int) (n : Nat) (w : World) (hz : z = n) (hn : n ≤ 8) :
 Calls Try.prog 61 #[.int .i64 z] w fun e w' => e = .returned (.int .i64 (pw n)) ∧ w = w' := by
 subst hz
 go_enter Try.func61, Try.ntmps61
 go_wp2
 go_loop [3, 4] (fun p i => ∃ k : Nat, k ≤ n ∧ i = .int .i64 (k : Int) ∧ p = .int .i64 (pw k)) (fun _ i => n - (intOf i).toNat)
 case atStart => exact ⟨0, Nat.zero_le _, rfl, rfl⟩
 case round =>
  obtain ⟨k, hk, rfl, rfl⟩ := hrel
  have hp0 := pw_pos k
  have hp1 := pw_lt (n := k) (by omega)
  have hs := Lib.hid (pw_succ k)
  by_cases hlt : k < n
  · generalize pw k = P at *
    go_wp2
    go_round
    case rel => exact ⟨k + 1, by omega, by go_num, by rw [hs.out]⟩
    case measure => simp [intOf]; omega
  · obtain rfl : k = n := by omega
    go_wp2
    go_ret
    exact ⟨rfl, rfl⟩
theorem l2Digit_any (d : Int) (w : World) (h0 : 0 ≤ d) (h1 : d ≤ 1000) :
 Calls Try.prog 67 #[.int .i64 d] w fun e w' => e = .returned (rodD d).val ∧ Below w.heap.size w w' := by
 go_enter Try.func67, Try.ntmps67
 go_wp2
 refine bodyPost_ret (v := .agg #[.int .i64 (d / 5), .int .i64 (d % 5)]) (by simp [results, Try.results67, go_sem]) rfl ⟨rfl, (by repeat (first | exact ext_refl _ | assumption | refine ext_alloc ?_ _ | refine ext_drew ?_ | refine ext_drewN ?_ _ | refine ext_set ?_ (by simp <;> omega) _ | refine ext_trans ?_ (by assumption)))⟩
end Go.Proofs.Ytaghjaiaoajpiaa
namespace Go.Proofs.Ytaghjaiaoajpiaa
open Go.RowKit
set_option linter.unusedVariables false
set_option linter.unusedSimpArgs false
/-- a move of beads -/
def okM (m : R3) : Bool := inB m.a 0 7 && inB m.b 0 1 && inB m.c (-5) 5 && (m.c != 0)
def mvsB (ms : List R3) : Bool := decide (ms.length ≤ 60) && ms.all okM
def rcdB (ms : List R3) : Bool := decide (ms.length ≤ 12) && mvsB ms
theorem okM_iff {m : R3} : okM m = true ↔ (0 ≤ m.a ∧ m.a ≤ 7) ∧ (0 ≤ m.b ∧ m.b ≤ 1) ∧ (-5 ≤ m.c ∧ m.c ≤ 5) ∧ m.c ≠ 0 := by
 simp only [okM, Bool.and_eq_true, inB_iff, bne_iff_ne]
 exact ⟨fun ⟨⟨⟨a, b⟩, c⟩, d⟩ => ⟨a, b, c, d⟩, fun ⟨a, b, c, d⟩ => ⟨⟨⟨a, b⟩, c⟩, d⟩⟩
theorem all_snoc3 {l : List R3} {k : Nat} {r : R3} {p : R3 → Bool} (h : (l.take k).all p = true) (hr : l[k]? = some r) (hp : p r = true) : (l.take (k + 1)).all p = true := by
 rw [List.take_add_one, hr]
 simp [h, hp]
theorem all_bad3 {l : List R3} {k : Nat} {r : R3} {p : R3 → Bool} (hr : l[k]? = some r) (hp : p r = false) : l.all p = false := by
 rw [List.all_eq_false]
 exact ⟨r, List.mem_of_getElem? hr, by simp [hp]⟩
theorem all_whole3 {l : List R3} {k : Nat} {p : R3 → Bool} (h : (l.take k).all p = true) (hk : l.length ≤ k) : l.all p = true := by rwa [List.take_of_length_le hk] at h
theorem within_c (n lo hi : Int) (b : Bool) (w : World) (hb : inB n lo hi = b) :
 Calls Try.prog 34 #[.int .i64 n, .int .i64 lo, .int .i64 hi] w fun e w' => e = .returned (.bool b) ∧ w = w' := by
 subst hb; exact inB_within n lo hi w
theorem l1In_c (n lo hi : Int) (b : Bool) (w : World) (hb : inB n lo hi = b) :
 Calls Try.prog 37 #[.int .i64 n, .int .i64 lo, .int .i64 hi] w fun e w' => e = .returned (.bool b) ∧ w = w' := by
 subst hb; exact inB_l1In n lo hi w
theorem IsBeadMove_any (m : R3) (w : World) :
 Calls Try.prog 78 #[m.val] w fun e w' => e = .returned (.bool (okM m)) ∧ Below w.heap.size w w' := by
 cases ha : inB m.a 0 7
 · rw [show okM m = false by simp [okM, ha]]
   go_enter Try.func78, Try.ntmps78
   go_wp2_with (first | (go_at_call 34; with_reducible refine (within_c _ _ _ _ _ ha).mono ?_; rintro e w' ⟨rfl, rfl⟩))
   go_ret
   exact ⟨rfl, ext_alloc (ext_refl _) _⟩
 cases hb : inB m.b 0 1
 · rw [show okM m = false by simp [okM, hb]]
   go_enter Try.func78, Try.ntmps78
   go_wp2_with (first | (go_at_call 34; with_reducible refine (within_c _ _ _ _ _ ha).mono ?_; rintro e w' ⟨rfl, rfl⟩) | (go_at_call 34; with_reducible refine (within_c _ _ _ _ _ hb).mono ?_; rintro e w' ⟨rfl, rfl⟩))
   go_ret
   exact ⟨rfl, ext_alloc (ext_refl _) _⟩
 cases hc : inB m.c (-5) 5
 · rw [show okM m = false by simp [okM, hc]]
   go_enter Try.func78, Try.ntmps78
   go_wp2_with (first | (go_at_call 34; with_reducible refine (within_c _ _ _ _ _ ha).mono ?_; rintro e w' ⟨rfl, rfl⟩) | (go_at_call 34; with_reducible refine (within_c _ _ _ _ _ hb).mono ?_; rintro e w' ⟨rfl, rfl⟩) | (go_at_call 34; with_reducible refine (within_c _ _ _ _ _ hc).mono ?_; rintro e w' ⟨rfl, rfl⟩))
   go_ret
   exact ⟨rfl, ext_alloc (ext_refl _) _⟩
 rw [show okM m = (m.c != 0) by simp [okM, ha, hb, hc]]
 go_enter Try.func78, Try.ntmps78
 go_wp2_with (first | (go_at_call 34; with_reducible refine (within_c _ _ _ _ _ ha).mono ?_; rintro e w' ⟨rfl, rfl⟩) | (go_at_call 34; with_reducible refine (within_c _ _ _ _ _ hb).mono ?_; rintro e w' ⟨rfl, rfl⟩) | (go_at_call 34; with_reducible refine (within_c _ _ _ _ _ hc).mono ?_; rintro e w' ⟨rfl, rfl⟩))
 go_ret
 exact ⟨rfl, ext_alloc (ext_refl _) _⟩
set_option maxRecDepth 100000 in
set_option maxHeartbeats 1000000 in
theorem areMoves_any (A : Option Addr) (n c : Nat) (ms : List R3) (w : World) (hn : n ≤ 1048576) (h : Reads w w.heap.size 3 A n (rowsV3 ms)) :
 Calls Try.prog 50 #[.slice A n c] w (RetV (.bool (mvsB ms)) w) := by
 have hl := rows_len3 h
 have H := Lib.hid h
 have HL := Lib.hid hl
 clear h
 by_cases h60 : (60 : Int) < n
 · have e : mvsB ms = false := by unfold mvsB; rw [hl, decide_eq_false (by omega)]; rfl
   rw [e]
   clear hl
   go_enter Try.func50, Try.ntmps50
   go_wp2
   go_ret
   exact ⟨rfl, ext_refl _⟩
 · have E := Lib.hid (show mvsB ms = ms.all okM by unfold mvsB; rw [hl, decide_eq_true (by omega)]; rfl)
   clear hl
   rw [E.out]
   go_enter Try.func50, Try.ntmps50
   go_wp2
   go_loopw [10] (fun i wr => ∃ k : Nat, k ≤ n ∧ i = .int .i64 k ∧ Hid (Below w.heap.size w wr) ∧ Hid ((ms.take k).all okM = true)) (fun i _ => n - (intOf i).toNat)
   case atStart => exact ⟨0, Nat.zero_le _, rfl, Lib.hid (ext_refl _), Lib.hid rfl⟩
   case round =>
    obtain ⟨k, hk, rfl, hbl, hok⟩ := hrel
    by_cases hlt : k < n
    · obtain ⟨r, hr⟩ := list_split (l := ms) (k := k) (by rw [HL.out]; exact hlt)
      obtain ⟨b, o, rfl, hb, c0, c1, c2⟩ := rows_at3 (rdx H.out hbl.out) hr
      have HISM := Lib.hid (fun w => IsBeadMove_any r w)
      cases hgd : okM r
      · rw [hgd] at HISM
        have hbad := Lib.hid (all_bad3 hr hgd)
        clear hr hgd
        go_wp2_with fail
        refine (HISM.out _).mono ?_
        rintro e w1 ⟨rfl, hb1⟩
        go_wp2
        go_ret
        exact ⟨ret_bool (by rw [hbad.out]), ext_trans (ext_alloc hbl.out _) hb1⟩
      · rw [hgd] at HISM
        have hgood := Lib.hid (all_snoc3 hok.out hr hgd)
        clear hr hgd
        go_wp2_with fail
        refine (HISM.out _).mono ?_
        rintro e w1 ⟨rfl, hb1⟩
        go_wp2
        go_roundw
        case rel => exact ⟨k + 1, by omega, by go_num, Lib.hid (ext_trans (ext_alloc hbl.out _) hb1), hgood⟩
        case measure => simp [intOf]; omega
    · obtain rfl : k = n := by omega
      have hall := Lib.hid (all_whole3 hok.out (by rw [HL.out]; exact Nat.le_refl _))
      go_wp2
      go_ret
      exact ⟨ret_bool (by rw [hall.out]), hbl.out⟩
/-- how many beads -/
def ab (z : Int) : Int := if z < 0 then -z else z
theorem ab_le {z : Int} (h : -1000 ≤ z ∧ z ≤ 1000) : 0 ≤ ab z ∧ ab z ≤ 1000 := by unfold ab; split <;> omega
def beads (ms : List R3) : Int := ms.foldl (fun s m => s + ab m.c) 0
theorem beads_take {ms : List R3} {k : Nat} {m : R3} (h : ms[k]? = some m) : beads (ms.take (k + 1)) = beads (ms.take k) + ab m.c := by
 unfold beads
 rw [List.take_add_one, h]
 simp [List.foldl_append]
theorem beads_all (ms : List R3) (k : Nat) (h : ms.length ≤ k) : beads (ms.take k) = beads ms := by rw [List.take_of_length_le h]
def smallM (ms : List R3) : Prop := ∀ m ∈ ms, -1000 ≤ m.c ∧ m.c ≤ 1000
theorem beads_bound {ms : List R3} (h : smallM ms) (k : Nat) : 0 ≤ beads (ms.take k) ∧ beads (ms.take k) ≤ 1000 * k := by
 induction k with
 | zero => simp [beads]
 | succ k ih =>
   rcases hm : ms[k]? with _ | m
   · rw [List.getElem?_eq_none_iff] at hm
     rw [List.take_of_length_le (by omega)]
     rw [List.take_of_length_le hm] at ih
     omega
   · rw [beads_take hm]
     have := ab_le (h m (List.mem_of_getElem? hm))
     omega
theorem abs_any (z : Int) (w : World) (h : -1000 ≤ z ∧ z ≤ 1000) : Calls Try.prog 91 #[.int .i64 z] w fun e w' => e = .returned (.int .i64 (ab z)) ∧ w = w' := by
 obtain ⟨h1, h2⟩ := h
 by_cases hz : z < 0
 · rw [show ab z = -z from if_pos hz]
   go_enter Try.func91, Try.ntmps91
   go_wp2
   go_ret
   exact ⟨rfl, rfl⟩
 · rw [show ab z = z from if_neg hz]
   go_enter Try.func91, Try.ntmps91
   go_wp2
   go_ret
   exact ⟨rfl, rfl⟩
theorem l1Most_ab (z : Int) (w : World) (h : -1000 ≤ z ∧ z ≤ 1000) : Calls Try.prog 70 #[.int .i64 z, .int .i64 (-z)] w fun e w' => e = .returned (.int .i64 (ab z)) ∧ Below w.heap.size w w' := by
 obtain ⟨h1, h2⟩ := h
 by_cases hz : -z < z
 · rw [show ab z = z from if_neg (by omega)]
   go_enter Try.func70, Try.ntmps70
   go_wp2
   go_ret
   exact ⟨rfl, ext_refl _⟩
 · rw [show ab z = -z by unfold ab; split <;> omega]
   go_enter Try.func70, Try.ntmps70
   go_wp2
   go_ret
   exact ⟨rfl, ext_refl _⟩
set_option maxRecDepth 100000 in
set_option maxHeartbeats 1000000 in
theorem beadsOf_any (A : Option Addr) (n c : Nat) (ms : List R3) (w : World) (hn : n ≤ 1048576) (hs : smallM ms) (h : Reads w w.heap.size 3 A n (rowsV3 ms)) :
 Calls Try.prog 85 #[.slice A n c] w (RetV (.int .i64 (beads ms)) w) := by
 have hl := rows_len3 h
 have H := Lib.hid h
 have HL := Lib.hid hl
 have HS := Lib.hid hs
 clear h hl hs
 go_enter Try.func85, Try.ntmps85
 go_wp2
 go_loopw [3, 8] (fun s i wr => ∃ k : Nat, k ≤ n ∧ i = .int .i64 k ∧ s = .int .i64 (beads (ms.take k)) ∧ Hid (Below w.heap.size w wr)) (fun _ i _ => n - (intOf i).toNat)
 case atStart => exact ⟨0, Nat.zero_le _, rfl, rfl, Lib.hid (ext_refl _)⟩
 case round =>
  obtain ⟨k, hk, rfl, rfl, hbl⟩ := hrel
  obtain ⟨m0, m1⟩ := beads_bound HS.out k
  by_cases hlt : k < n
  · obtain ⟨r, hr⟩ := list_split (l := ms) (k := k) (by rw [HL.out]; exact hlt)
    obtain ⟨b, o, rfl, hb, c0, c1, c2⟩ := rows_at3 (rdx H.out hbl.out) hr
    have hsm := HS.out r (List.mem_of_getElem? hr)
    have hab := ab_le hsm
    have hnew := Lib.hid (beads_take hr)
    obtain ⟨ab0, ab1⟩ := hab
    clear hr
    generalize beads (ms.take k) = M at *
    go_wp2_with fail
    refine (abs_any r.c _ hsm).mono ?_
    rintro e w1 ⟨rfl, rfl⟩
    go_wp2
    go_roundw
    case rel => exact ⟨k + 1, by omega, by go_num, by rw [hnew.out], Lib.hid (ext_alloc hbl.out _)⟩
    case measure => simp [intOf]; omega
  · obtain rfl : k = n := by omega
    have hall := Lib.hid (beads_all ms k (by rw [HL.out]; exact Nat.le_refl _))
    go_wp2
    go_ret
    exact ⟨ret_int (by rw [hall.out]), hbl.out⟩
end Go.Proofs.Ytaghjaiaoajpiaa
namespace Go.Proofs.Ytaghjaiaoajpiaa
open Go.RowKit
set_option linter.unusedVariables false
set_option linter.unusedSimpArgs false
def btw (l l' : List R2) : Nat → List R3
 | 0 => []
 | k + 1 => btw l l' k ++ mvR (k : Int) (l.getD k ⟨0, 0⟩) (l'.getD k ⟨0, 0⟩)
theorem btw_len (l l' : List R2) (k : Nat) : (btw l l' k).length ≤ 2 * k := by
 induction k with
 | zero => simp [btw]
 | succ k ih => rw [btw, List.length_append]; have := mvR_len (k : Int) (l.getD k ⟨0, 0⟩) (l'.getD k ⟨0, 0⟩); omega
theorem btw_step {l l' : List R2} {k : Nat} {r s : R2} (hr : l[k]? = some r) (hs : l'[k]? = some s) : btw l l' (k + 1) = btw l l' k ++ mvR (k : Int) r s := by
 rw [btw, List.getD_eq_getElem?_getD, List.getD_eq_getElem?_getD, hr, hs]; rfl
theorem mvR_small {k : Int} {r s : R2} (hr : (0 ≤ r.a ∧ r.a ≤ 9) ∧ 0 ≤ r.b ∧ r.b ≤ 9) (hs : (0 ≤ s.a ∧ s.a ≤ 9) ∧ 0 ≤ s.b ∧ s.b ≤ 9) : smallM (mvR k r s) := by
 intro m hm
 unfold mvR at hm
 rw [List.mem_append] at hm
 rcases hm with hm | hm
 · split at hm
   · cases hm
   · simp at hm; subst hm; dsimp only; omega
 · split at hm
   · cases hm
   · simp at hm; subst hm; dsimp only; omega
theorem fr_nine {u lo : Int} {l : List R2} (h : frB u lo l = true) (k : Nat) : (0 ≤ (l.getD k ⟨0, 0⟩).a ∧ (l.getD k ⟨0, 0⟩).a ≤ 9) ∧ 0 ≤ (l.getD k ⟨0, 0⟩).b ∧ (l.getD k ⟨0, 0⟩).b ≤ 9 := by
 rw [List.getD_eq_getElem?_getD]
 rcases e : l[k]? with _ | r
 · simp
 · have h1 := frB_rod h e
   have h2 := frB_head h
   simp only [Option.getD_some]
   omega
theorem btw_small {u lo : Int} {l l' : List R2} (h : frB u lo l = true) (h' : frB u lo l' = true) (k : Nat) : smallM (btw l l' k) := by
 induction k with
 | zero => intro m hm; cases hm
 | succ k ih =>
   intro m hm
   rw [btw, List.mem_append] at hm
   rcases hm with hm | hm
   · exact ih m hm
   · exact mvR_small (fr_nine h k) (fr_nine h' k) m hm
theorem rows_cmp {w : World} {B n : Nat} {A : Option Addr} {l : List R2} (h : Reads w B 2 A n (rowsV2 l)) {k : Nat} {r : R2} (hr : l[k]? = some r) :
 ∃ b o, A = some ⟨b, o, none⟩ ∧ b < B ∧ ∀ j, j < 2 → w.cell? ⟨b, o + k * 2 + j, none⟩ = some (.int .i64 (cmp r j)) := by
 obtain ⟨b, o, hA, hb, c0, c1⟩ := rows_at2 h hr
 refine ⟨b, o, hA, hb, fun j hj => ?_⟩
 rcases (show j = 0 ∨ j = 1 by omega) with rfl | rfl
 · exact c0
 · exact c1
/-- two frames' boxes, behind them only more -/
theorem box_two {w wr : World} {u lo u' lo' : Int} {A A' : Option Addr} {n c n' c' : Nat} (hb : Below (w.heap.size + 1 + 1) ((w.alloc (.cells #[.int .i64 u, .int .i64 lo, .slice A n c] 26)).alloc (.cells #[.int .i64 u', .int .i64 lo', .slice A' n' c'] 26)) wr) :
 Blk wr w.heap.size 26 #[.int .i64 u, .int .i64 lo, .slice A n c] ∧ Blk wr (w.heap.size + 1) 26 #[.int .i64 u', .int .i64 lo', .slice A' n' c'] ∧ Below w.heap.size w wr ∧ w.heap.size + 1 < wr.heap.size := by
 have hs := hb.size
 simp at hs
 exact ⟨((Blk.born w _ _ rfl).al _).below hb (by omega), (Blk.born (w.alloc (.cells #[.int .i64 u, .int .i64 lo, .slice A n c] 26)) _ _ (H := w.heap.size + 1) (by simp)).below hb (by omega), (ext_alloc (ext_alloc (ext_refl w) _) _).trans (hb.mono (by omega)), by omega⟩
end Go.Proofs.Ytaghjaiaoajpiaa
namespace Go.Proofs.Ytaghjaiaoajpiaa
open Go.RowKit
set_option linter.unusedVariables false
set_option linter.unusedSimpArgs false
def formsN (lo v : Int) : Nat → List R2
 | 0 => []
 | k + 1 => formsN lo v k ++ (if inB (v - 5 * (k : Int)) 0 lo = true then [⟨(k : Int), v - 5 * (k : Int)⟩] else [])
def forms (u lo v : Int) : List R2 := formsN lo v (u + 1).toNat
set_option maxRecDepth 100000 in
set_option maxHeartbeats 4000000 in
theorem formsOf_any (u lo v : Int) (w : World) (hu : 0 ≤ u ∧ u ≤ 1000) (hv : -1000 ≤ v ∧ v ≤ 1000) :
 Calls Try.prog 42 #[.int .i64 u, .int .i64 lo, .int .i64 v] w (RetSlice w 42 2 (forms u lo v).length (rowsV2 (forms u lo v))) := by
 obtain ⟨i0, hi, hz0, hz1, hz2⟩ := info_parts info_rod
 obtain ⟨N, hN⟩ := Int.eq_ofNat_of_zero_le (show 0 ≤ u + 1 by omega)
 have hNN : N ≤ 1001 := by omega
 have hE := Lib.hid (show forms u lo v = formsN lo v N by unfold forms; rw [hN]; rfl)
 go_enter Try.func42, Try.ntmps42
 go_wp2
 go_loopw [7, 8] (fun ov kv wr => ∃ (k : Nat) (A : Option Addr) (c : Nat) (L : List R2), k ≤ N ∧ kv = .int .i64 (k : Int) ∧ ov = .slice A L.length c ∧ L.length ≤ k ∧ Hid (formsN lo v k = L) ∧ Hid (wr.ownsRow w.heap.size 42 2 (.slice A L.length c) L.length (rowsV2 L)) ∧ Hid (Below w.heap.size w wr)) (fun _ kv _ => N - (intOf kv).toNat)
 case atStart => exact ⟨0, none, 0, [], Nat.zero_le _, rfl, rfl, Nat.le_refl _, Lib.hid rfl, Lib.hid (World.ownsRow_nil _ _ _ _), Lib.hid (ext_refl _)⟩
 case round =>
  obtain ⟨k, A, c, L, hk, rfl, rfl, hLk, HL, HO, HX⟩ := hrel
  obtain ⟨W, hW⟩ : ∃ y : World, y = wr := ⟨_, rfl⟩
  subst hW
  have hs1 : wrap64 (5 * (k : Int)) = 5 * (k : Int) := by unfold wrap64; omega
  have hs2 : wrap64 (v - 5 * (k : Int)) = v - 5 * (k : Int) := by unfold wrap64; omega
  by_cases hlt : k < N
  · have hle : (k : Int) ≤ u := by omega
    cases hin : inB (v - 5 * (k : Int)) 0 lo
    · have HL2 := Lib.hid (show formsN lo v (k + 1) = L by rw [formsN, HL.out, hin]; simp)
      go_wp2_with fail
      refine (inB_within (v - 5 * (k : Int)) 0 lo _).mono ?_
      rw [hin]
      rintro e wz ⟨rfl, rfl⟩
      go_wp2
      go_roundw
      case rel => exact ⟨k + 1, A, c, L, by omega, by go_num, rfl, by omega, HL2, HO, HX⟩
      case measure => simp [intOf]; omega
    · have HL2 := Lib.hid (show formsN lo v (k + 1) = L ++ [⟨(k : Int), v - 5 * (k : Int)⟩] by rw [formsN, HL.out, hin]; simp)
      have hbV := HX.out.size
      have m1 : L.length + 1 ≤ maxLen := by unfold maxLen; omega
      have m2 : (L.length + 1) * 16 ≤ 140737488355328 := by omega
      go_wp2_with fail
      refine (inB_within (v - 5 * (k : Int)) 0 lo _).mono ?_
      rw [hin]
      rintro e wz ⟨rfl, rfl⟩
      go_wp2_with (at_builtin; refine wpList_append_own _ rfl (.tmp 22) (.tmp 26) 24 rfl w.heap.size 42 i0 _ 2 16 Try.underlying24 hi hz0 hz1 hz2 rfl (by decide) (.slice A L.length c) L.length (rowsV2 L) rfl (HO.out.alloc (.cells #[.int .i64 (k : Int), .int .i64 (v - 5 * (k : Int))] 42)) _ 1 1 [.int .i64 (k : Int), .int .i64 (v - 5 * (k : Int))] rfl rfl (cells_new_at W [.int .i64 (k : Int), .int .i64 (v - 5 * (k : Int))] 42 rfl) (by simp [Value.oneCell']) m1 m2 (Nat.le_trans hbV (by simp)) ?_; intro v9 w6 hown hgrow _; obtain ⟨A4, c4, rfl⟩ := own_shape hown; have HGR := Lib.hid hgrow; have HOW := Lib.hid hown; clear hown hgrow)
      have HB6 := Lib.hid (below_grown' (HO.out.alloc (.cells #[.int .i64 (k : Int), .int .i64 (v - 5 * (k : Int))] 42)) (Nat.le_refl _) (ext_alloc HX.out (.cells #[.int .i64 (k : Int), .int .i64 (v - 5 * (k : Int))] 42)) HGR.out)
      have HO6 := Lib.hid (show w6.ownsRow w.heap.size 42 2 (.slice A4 (L.length + 1) c4) (L.length + 1) (rowsV2 (L ++ [⟨(k : Int), v - 5 * (k : Int)⟩])) by have h9 := HOW.out; simpa [rowsV2, R2.cells] using h9)
      go_wp2
      go_roundw
      case rel => exact ⟨k + 1, A4, c4, L ++ [⟨(k : Int), v - 5 * (k : Int)⟩], by omega, by go_num, by rw [List.length_append]; rfl, by rw [List.length_append]; show L.length + 1 ≤ k + 1; omega, HL2, by rw [List.length_append]; exact HO6, HB6⟩
      case measure => simp [intOf]; omega
  · obtain rfl : N = k := by omega
    have hle : ¬ (N : Int) ≤ u := by omega
    go_wp2
    go_ret
    rw [hE.out, HL.out]
    exact ⟨A, c, rfl, HO.out, HX.out⟩

set_option maxRecDepth 100000 in
set_option maxHeartbeats 4000000 in
theorem l13Forms_any (u lo v : Int) (w : World) (hu : 0 ≤ u ∧ u ≤ 1000) (hv : -1000 ≤ v ∧ v ≤ 1000) :
 Calls Try.prog 43 #[.int .i64 u, .int .i64 lo, .int .i64 v] w (RetSlice w 42 2 (forms u lo v).length (rowsV2 (forms u lo v))) := by
 obtain ⟨i0, hi, hz0, hz1, hz2⟩ := info_parts info_rod
 obtain ⟨N, hN⟩ := Int.eq_ofNat_of_zero_le (show 0 ≤ u + 1 by omega)
 have hNN : N ≤ 1001 := by omega
 have hE := Lib.hid (show forms u lo v = formsN lo v N by unfold forms; rw [hN]; rfl)
 go_enter Try.func43, Try.ntmps43
 go_wp2
 go_loopw [7, 8] (fun ov kv wr => ∃ (k : Nat) (A : Option Addr) (c : Nat) (L : List R2), k ≤ N ∧ kv = .int .i64 (k : Int) ∧ ov = .slice A L.length c ∧ L.length ≤ k ∧ Hid (formsN lo v k = L) ∧ Hid (wr.ownsRow w.heap.size 42 2 (.slice A L.length c) L.length (rowsV2 L)) ∧ Hid (Below w.heap.size w wr)) (fun _ kv _ => N - (intOf kv).toNat)
 case atStart => exact ⟨0, some ⟨w.heap.size, 0, none⟩, 0, [], Nat.zero_le _, rfl, rfl, Nat.le_refl _, Lib.hid rfl, Lib.hid (own_lit_at w 42 2 rfl (Nat.le_refl _)), Lib.hid (ext_alloc (ext_refl _) _)⟩
 case round =>
  obtain ⟨k, A, c, L, hk, rfl, rfl, hLk, HL, HO, HX⟩ := hrel
  obtain ⟨W, hW⟩ : ∃ y : World, y = wr := ⟨_, rfl⟩
  subst hW
  have hs1 : wrap64 (5 * (k : Int)) = 5 * (k : Int) := by unfold wrap64; omega
  have hs2 : wrap64 (v - 5 * (k : Int)) = v - 5 * (k : Int) := by unfold wrap64; omega
  by_cases hlt : k < N
  · have hle : (k : Int) ≤ u := by omega
    cases hin : inB (v - 5 * (k : Int)) 0 lo
    · have HL2 := Lib.hid (show formsN lo v (k + 1) = L by rw [formsN, HL.out, hin]; simp)
      go_wp2_with fail
      refine (l1In_c (v - 5 * (k : Int)) 0 lo _ _ rfl).mono ?_
      rw [hin]
      rintro e wz ⟨rfl, rfl⟩
      go_wp2
      go_roundw
      case rel => exact ⟨k + 1, A, c, L, by omega, by go_num, rfl, by omega, HL2, HO, HX⟩
      case measure => simp [intOf]; omega
    · have HL2 := Lib.hid (show formsN lo v (k + 1) = L ++ [⟨(k : Int), v - 5 * (k : Int)⟩] by rw [formsN, HL.out, hin]; simp)
      have hbV := HX.out.size
      have m1 : L.length + 1 ≤ maxLen := by unfold maxLen; omega
      have m2 : (L.length + 1) * 16 ≤ 140737488355328 := by omega
      go_wp2_with fail
      refine (l1In_c (v - 5 * (k : Int)) 0 lo _ _ rfl).mono ?_
      rw [hin]
      rintro e wz ⟨rfl, rfl⟩
      go_wp2_with (at_builtin; refine wpList_append_own _ rfl (.tmp 21) (.tmp 28) 24 rfl w.heap.size 42 i0 _ 2 16 Try.underlying24 hi hz0 hz1 hz2 rfl (by decide) (.slice A L.length c) L.length (rowsV2 L) rfl (HO.out.alloc (.cells #[.int .i64 (k : Int), .int .i64 (v - 5 * (k : Int))] 42)) _ 1 1 [.int .i64 (k : Int), .int .i64 (v - 5 * (k : Int))] rfl rfl (cells_new_at W [.int .i64 (k : Int), .int .i64 (v - 5 * (k : Int))] 42 rfl) (by simp [Value.oneCell']) m1 m2 (Nat.le_trans hbV (by simp)) ?_; intro v9 w6 hown hgrow _; obtain ⟨A4, c4, rfl⟩ := own_shape hown; have HGR := Lib.hid hgrow; have HOW := Lib.hid hown; clear hown hgrow)
      have HB6 := Lib.hid (below_grown' (HO.out.alloc (.cells #[.int .i64 (k : Int), .int .i64 (v - 5 * (k : Int))] 42)) (Nat.le_refl _) (ext_alloc HX.out (.cells #[.int .i64 (k : Int), .int .i64 (v - 5 * (k : Int))] 42)) HGR.out)
      have HO6 := Lib.hid (show w6.ownsRow w.heap.size 42 2 (.slice A4 (L.length + 1) c4) (L.length + 1) (rowsV2 (L ++ [⟨(k : Int), v - 5 * (k : Int)⟩])) by have h9 := HOW.out; simpa [rowsV2, R2.cells] using h9)
      go_wp2
      go_roundw
      case rel => exact ⟨k + 1, A4, c4, L ++ [⟨(k : Int), v - 5 * (k : Int)⟩], by omega, by go_num, by rw [List.length_append]; rfl, by rw [List.length_append]; show L.length + 1 ≤ k + 1; omega, HL2, by rw [List.length_append]; exact HO6, HB6⟩
      case measure => simp [intOf]; omega
  · obtain rfl : N = k := by omega
    have hle : ¬ (N : Int) ≤ u := by omega
    go_wp2
    go_ret
    rw [hE.out, HL.out]
    exact ⟨A, c, rfl, HO.out, HX.out⟩

end Go.Proofs.Ytaghjaiaoajpiaa
namespace Go.Proofs.Ytaghjaiaoajpiaa
open Go.RowKit
set_option linter.unusedVariables false
set_option linter.unusedSimpArgs false
def cmpP : List R2 → List R2 → Int
 | x :: xs, y :: ys => if x.a - y.a ≠ 0 then x.a - y.a else if x.b - y.b ≠ 0 then x.b - y.b else cmpP xs ys
 | _, _ => 0
theorem cmpP_step {l l' : List R2} {k : Nat} {r s : R2} (hr : l[k]? = some r) (hs : l'[k]? = some s) : cmpP (l.drop k) (l'.drop k) = if r.a - s.a ≠ 0 then r.a - s.a else if r.b - s.b ≠ 0 then r.b - s.b else cmpP (l.drop (k + 1)) (l'.drop (k + 1)) := by
 obtain ⟨h1, h1'⟩ := List.getElem?_eq_some_iff.1 hr
 obtain ⟨h2, h2'⟩ := List.getElem?_eq_some_iff.1 hs
 rw [List.drop_eq_getElem_cons h1, List.drop_eq_getElem_cons h2, h1', h2', cmpP]
theorem cmpP_end (l l' : List R2) {k : Nat} (h : l.length ≤ k) : cmpP (l.drop k) (l'.drop k) = 0 := by
 rw [List.drop_eq_nil_of_le h]
 rfl
theorem cmpP_zero : ∀ (l l' : List R2), l.length = l'.length → cmpP l l' = 0 → l = l' := by
 intro l
 induction l with
 | nil => intro l' h _; cases l' with
   | nil => rfl
   | cons y ys => cases h
 | cons x xs ih =>
   intro l' h hz
   cases l' with
   | nil => cases h
   | cons y ys =>
     rw [cmpP] at hz
     obtain ⟨xa, xb⟩ := x
     obtain ⟨ya, yb⟩ := y
     dsimp only at hz
     split at hz
     · omega
     · split at hz
       · omega
       · rw [ih ys (by simpa using h) hz, show xa = ya by omega, show xb = yb by omega]
theorem cmpP_self (l : List R2) : cmpP l l = 0 := by
 induction l with
 | nil => rfl
 | cons x xs ih => rw [cmpP, if_neg (by omega), if_neg (by omega), ih]
def smallR (l : List R2) : Prop := ∀ (k : Nat) (r : R2), l[k]? = some r → (-1000 ≤ r.a ∧ r.a ≤ 1000) ∧ -1000 ≤ r.b ∧ r.b ≤ 1000
set_option maxRecDepth 100000 in
set_option maxHeartbeats 4000000 in
theorem comparePairs_any (A B : Option Addr) (n c d : Nat) (l l' : List R2) (w : World) (hn : n ≤ 1048576) (h1 : smallR l) (h2 : smallR l') (h : Reads w w.heap.size 2 A n (rowsV2 l)) (h' : Reads w w.heap.size 2 B n (rowsV2 l')) :
 Calls Try.prog 86 #[.slice A n c, .slice B n d] w fun e w' => e = .returned (.int .i64 (cmpP l l')) ∧ Below w.heap.size w w' := by
 have hl := rows_len2 h
 have hl' := rows_len2 h'
 have H := Lib.hid h
 have H' := Lib.hid h'
 have H1 := Lib.hid h1
 have H2 := Lib.hid h2
 have HL := Lib.hid hl
 have HL' := Lib.hid hl'
 obtain ⟨Z, hZ⟩ : ∃ o9, cmpP l l' = o9 := ⟨_, rfl⟩
 rw [hZ]
 have HZ := Lib.hid hZ
 clear h h' hl hl' h1 h2 hZ
 go_enter Try.func86, Try.ntmps86
 go_wp2
 go_loopw [9] (fun i wr => ∃ k : Nat, k ≤ n ∧ i = .int .i64 k ∧ Hid (Z = cmpP (l.drop k) (l'.drop k)) ∧ Hid (Below w.heap.size w wr)) (fun i _ => n - (intOf i).toNat)
 case atStart => exact ⟨0, Nat.zero_le _, rfl, Lib.hid HZ.out.symm, Lib.hid (ext_refl _)⟩
 case round =>
  obtain ⟨k, hk, rfl, HE, HW⟩ := hrel
  obtain ⟨W0, hW0⟩ : ∃ y : World, y = wr := ⟨_, rfl⟩
  subst hW0
  by_cases hlt : k < n
  · obtain ⟨r, hr⟩ := list_split (l := l) (k := k) (by rw [HL.out]; exact hlt)
    obtain ⟨s, hs⟩ := list_split (l := l') (k := k) (by rw [HL'.out]; exact hlt)
    have hst := Lib.hid (cmpP_step hr hs)
    obtain ⟨ba, oa, rfl, hba, hca⟩ := rows_cmp (H.out.ext HW.out (Nat.le_refl _)) hr
    obtain ⟨bb, ob, rfl, hbb, hcb⟩ := rows_cmp (H'.out.ext HW.out (Nat.le_refl _)) hs
    have ca0 := hca 0 (by omega)
    have ca1 := hca 1 (by omega)
    have cb0 := hcb 0 (by omega)
    have cb1 := hcb 1 (by omega)
    have b1 := H1.out k r hr
    have b2 := H2.out k s hs
    obtain ⟨ra, rb⟩ := r
    obtain ⟨sa, sb⟩ := s
    rw [show cmp ⟨ra, rb⟩ 0 = ra from rfl, Nat.add_zero] at ca0
    rw [show cmp ⟨ra, rb⟩ 1 = rb from rfl] at ca1
    rw [show cmp ⟨sa, sb⟩ 0 = sa from rfl, Nat.add_zero] at cb0
    rw [show cmp ⟨sa, sb⟩ 1 = sb from rfl] at cb1
    dsimp only at b1 b2 hst
    clear hr hs hca hcb
    have kk1 : (k : Int) < (n : Int) := by omega
    have kk0 : (0 : Int) ≤ (k : Int) := by omega
    have hsz := HW.out.size
    have hba2 : ba < W0.heap.size := by omega
    have hbb2 : bb < W0.heap.size := by omega
    by_cases e0 : ra = sa
    · have d0 : (ra != sa) = false := by simp [e0]
      by_cases e1 : rb = sb
      · have d1 : (rb != sb) = false := by simp [e1]
        have HN := Lib.hid (show Z = cmpP (l.drop (k + 1)) (l'.drop (k + 1)) by rw [HE.out, hst.out, if_neg (by omega), if_neg (by omega)])
        clear e0 e1 b1 b2
        go_wp2
        refine wp_loop_rounds 3 ?_
        rw [rounds_succ]
        go_wp2
        go_region
        go_wp2
        rw [rounds_succ]
        go_wp2
        go_region
        go_wp2
        rw [rounds_succ]
        go_wp2
        go_roundw
        case rel => exact ⟨k + 1, by omega, by go_num, HN, Lib.hid HW.out.drew.drew⟩
        case measure => simp [intOf]; omega
      · have d1 : (rb != sb) = true := by simp [e1]
        have HN := Lib.hid (show Z = rb - sb by rw [HE.out, hst.out, if_neg (by omega), if_pos (by omega)])
        clear e0 e1
        go_wp2
        refine wp_loop_rounds 3 ?_
        rw [rounds_succ]
        go_wp2
        go_region
        go_wp2
        rw [rounds_succ]
        go_wp2
        go_region
        go_wp2
        go_region
        go_wp2
        go_ret
        obtain rfl := HN.out; exact ⟨rfl, HW.out.drew.drew.drew⟩
    · have d0 : (ra != sa) = true := by simp [e0]
      have HN := Lib.hid (show Z = ra - sa by rw [HE.out, hst.out, if_pos (by omega)])
      clear e0
      go_wp2
      refine wp_loop_rounds 3 ?_
      rw [rounds_succ]
      go_wp2
      go_region
      go_wp2
      go_region
      go_wp2
      go_ret
      obtain rfl := HN.out; exact ⟨rfl, HW.out.drew.drew⟩
  · obtain rfl : k = n := by omega
    have HN := Lib.hid (show Z = 0 by rw [HE.out]; exact cmpP_end l l' (by rw [HL.out]; omega))
    go_wp2
    go_ret
    obtain rfl := HN.out; exact ⟨rfl, HW.out⟩
end Go.Proofs.Ytaghjaiaoajpiaa
namespace Go.Proofs.Ytaghjaiaoajpiaa
open Go.RowKit
set_option linter.unusedVariables false
set_option linter.unusedSimpArgs false
structure Way where
 l : List R2
 m : Int
 b : Int
 ok : Bool
def Way.val (A : Option Addr) (c : Nat) (x : Way) : Value := .agg #[.slice A x.l.length c, .int .i64 x.m, .int .i64 x.b, .bool x.ok]
def nearP (x y : Way) : Bool := if x.ok != y.ok then x.ok else if x.ok = false then false else if x.m ≠ y.m then decide (x.m < y.m) else if x.b ≠ y.b then decide (x.b < y.b) else decide (cmpP x.l y.l < 0)
def fewP (x y : Way) : Bool := if x.ok != y.ok then x.ok else x.ok && decide (x.b < y.b)
set_option maxRecDepth 100000 in
set_option maxHeartbeats 4000000 in
theorem nearer_any (A1 A2 : Option Addr) (c1 c2 : Nat) (l1 l2 : List R2) (m1 m2 b1 b2 : Int) (o1 o2 : Bool) (w : World) (hn : l1.length ≤ 1048576) (hl : o1 = true → o2 = true → l2.length = l1.length) (h1 : smallR l1) (h2 : smallR l2) (h : Reads w w.heap.size 2 A1 l1.length (rowsV2 l1)) (h' : Reads w w.heap.size 2 A2 l2.length (rowsV2 l2)) :
 Calls Try.prog 65 #[.agg #[.slice A1 l1.length c1, .int .i64 m1, .int .i64 b1, .bool o1], .agg #[.slice A2 l2.length c2, .int .i64 m2, .int .i64 b2, .bool o2]] w fun e w' => e = .returned (.bool (nearP ⟨l1, m1, b1, o1⟩ ⟨l2, m2, b2, o2⟩)) ∧ Below w.heap.size w w' := by
 have hbx := Lib.hid (ext_alloc (ext_alloc (ext_refl w) (.cells #[.slice A1 l1.length c1, .int .i64 m1, .int .i64 b1, .bool o1] 69)) (.cells #[.slice A2 l2.length c2, .int .i64 m2, .int .i64 b2, .bool o2] 69))
 obtain ⟨n1, hn1⟩ : ∃ o9, l1.length = o9 := ⟨_, rfl⟩
 obtain ⟨n2, hn2⟩ : ∃ o9, l2.length = o9 := ⟨_, rfl⟩
 rw [hn1] at hn hl h hbx ⊢
 rw [hn2] at hl h' hbx ⊢
 have H := Lib.hid h
 have H' := Lib.hid h'
 clear h h' hn1 hn2
 rcases o1 with _ | _
 · rcases o2 with _ | _
   · go_enter Try.func65, Try.ntmps65
     go_wp2
     go_ret
     exact ⟨rfl, hbx.out⟩
   · go_enter Try.func65, Try.ntmps65
     go_wp2
     go_ret
     exact ⟨rfl, hbx.out⟩
 · rcases o2 with _ | _
   · go_enter Try.func65, Try.ntmps65
     go_wp2
     go_ret
     exact ⟨rfl, hbx.out⟩
   · obtain rfl : n2 = n1 := hl rfl rfl
     have HCP := Lib.hid (fun (w : World) h h' => comparePairs_any A1 A2 n2 c1 c2 l1 l2 w hn h1 h2 h h')
     clear hl h1 h2
     by_cases hm : m1 = m2
     · have km : (m1 != m2) = false := by simp [hm]
       by_cases hb : b1 = b2
       · have kb : (b1 != b2) = false := by simp [hb]
         rw [show nearP ⟨l1, m1, b1, true⟩ ⟨l2, m2, b2, true⟩ = decide (cmpP l1 l2 < 0) by simp [nearP, hm, hb]]
         obtain ⟨Z, hZ⟩ : ∃ o9, cmpP l1 l2 = o9 := ⟨_, rfl⟩
         rw [hZ] at HCP ⊢
         clear hm hb hZ
         go_enter Try.func65, Try.ntmps65
         go_wp2_with fail
         refine (HCP.out _ (rdx H.out hbx.out) (rdx H'.out hbx.out)).mono ?_
         rintro e w1 ⟨rfl, hb1⟩
         go_wp2
         go_ret
         exact ⟨rfl, ext_trans hbx.out hb1⟩
       · have kb : (b1 != b2) = true := by simp [hb]
         rw [show nearP ⟨l1, m1, b1, true⟩ ⟨l2, m2, b2, true⟩ = decide (b1 < b2) by simp [nearP, hm, hb]]
         clear hm hb
         go_enter Try.func65, Try.ntmps65
         go_wp2
         go_ret
         exact ⟨rfl, hbx.out⟩
     · have km : (m1 != m2) = true := by simp [hm]
       rw [show nearP ⟨l1, m1, b1, true⟩ ⟨l2, m2, b2, true⟩ = decide (m1 < m2) by simp [nearP, hm]]
       clear hm
       go_enter Try.func65, Try.ntmps65
       go_wp2
       go_ret
       exact ⟨rfl, hbx.out⟩
end Go.Proofs.Ytaghjaiaoajpiaa
namespace Go.Proofs.Ytaghjaiaoajpiaa
open Go.RowKit
set_option linter.unusedVariables false
set_option linter.unusedSimpArgs false
end Go.Proofs.Ytaghjaiaoajpiaa
namespace Go.Proofs.Ytaghjaiaoajpiaa
open Go.RowKit
set_option linter.unusedVariables false
set_option linter.unusedSimpArgs false
/-- the digits of m for n rods, from the left -/
def digs (n : Nat) (m : Int) : List Int := (List.range n).map (dg n m)
theorem digs_len (n : Nat) (m : Int) : (digs n m).length = n := by simp [digs]
theorem digs_get {n k : Nat} (m : Int) (h : k < n) : (digs n m)[k]? = some (dg n m k) := by simp [digs, h]
/-- the last j of them, zeros before -/
def digsTo (n : Nat) (m : Int) (j : Nat) : List Int := (List.range n).map fun i => if n - j ≤ i then dg n m i else 0
theorem digsTo_zero (n : Nat) (m : Int) : digsTo n m 0 = List.replicate n 0 := by
 apply List.ext_getElem?
 intro i
 unfold digsTo
 by_cases h : i < n
 · have : ¬ n ≤ i := by omega
   simp [List.getElem?_replicate, h]; omega
 · simp [List.getElem?_replicate, h]
theorem digsTo_all (n : Nat) (m : Int) : digsTo n m n = digs n m := by
 unfold digsTo digs
 exact List.map_congr_left fun i _ => by simp
theorem digsTo_set {n j : Nat} (m : Int) (h : j < n) : (digsTo n m j).set (n - 1 - j) (dg n m (n - 1 - j)) = digsTo n m (j + 1) := by
 apply List.ext_getElem?
 intro i
 unfold digsTo
 rw [List.getElem?_set]
 by_cases e : n - 1 - j = i
 · subst e
   have h1 : n - (j + 1) ≤ n - 1 - j := by omega
   have h2 : n - 1 - j < n := by omega
   simp [h2, h1]
   intro h5
   omega
 · rw [if_neg e]
   by_cases hi : i < n
   · simp only [List.getElem?_map, List.getElem?_range hi, Option.map_some]
     congr 1
     by_cases h3 : n - j ≤ i
     · rw [if_pos h3, if_pos (by omega)]
     · rw [if_neg h3, if_neg (by omega)]
   · simp [hi]
theorem digsTo_len (n : Nat) (m : Int) (j : Nat) : (digsTo n m j).length = n := by simp [digsTo]
theorem intsV_set (zs : List Int) (k : Nat) (z : Int) : intsV (zs.set k z) = (intsV zs).set k (.int .i64 z) := by simp [intsV, List.map_set]
theorem intsV_len (zs : List Int) : (intsV zs).length = zs.length := by simp [intsV]
theorem dg_last {n j : Nat} (m : Int) (h : j < n) : dg n m (n - 1 - j) = m / pw j % 10 := by
 unfold dg
 rw [show n - (n - 1 - j + 1) = j by omega]
theorem div_pw {m : Int} (j : Nat) : m / pw (j + 1) = m / pw j / 10 := by
 have hp := pw_pos j
 rw [pw_succ, Int.mul_comm, ← Int.ediv_ediv_of_nonneg (by omega)]
theorem made_ints (n : Nat) : (madeCells (Value.int .i64 0).cells (n * 1)).toList = intsV (List.replicate n 0) := by
 rw [Nat.mul_one, show (Value.int .i64 0).cells = #[.int .i64 0] from rfl, toList_madeCells_one]
 simp [intsV]
theorem power_at (z : Int) (n : Nat) (w : World) (hz : z = n) (hn : n ≤ 8) : Calls Try.prog 90 #[.int .i64 z] w fun e w' => e = .returned (.int .i64 (pw n)) ∧ w = w' := by
 subst hz
 exact power_any n w hn
theorem info_int : (Try.prog.info? 3).map (fun i => (i.zero, i.size, i.bytes)) = some (some (.int .i64 0), 1, 8) := by kernel_rfl
set_option maxRecDepth 100000 in
set_option maxHeartbeats 1000000 in
theorem digitsFor_any (u lo : Int) (A : Option Addr) (n c : Nat) (m : Int) (w : World) (hn : n ≤ 8) (m0 : 0 ≤ m) (m1 : m < 200000000) :
 Calls Try.prog 74 #[frV u lo A n c, .int .i64 m] w (RetSlice w 3 1 n (intsV (digs n m))) := by
 obtain ⟨i0, hi, hz0, hz1, hz2⟩ := info_parts info_int
 go_enter Try.func74, Try.ntmps74
 go_wp2_with (at_make; refine wpList_make_full _ rfl _ _ 29 rfl (w.heap.size + 1) 3 i0 _ 1 Try.underlying29 hi hz0 hz1 .i64 .i64 _ _ n rfl rfl rfl rfl (by rw [hz2]; omega) (by unfold maxLen; omega) (by simp) ?_; intro w0 hown0 hgrow0)
 rw [made_ints] at hown0
 have hs0 := (hown0.lt _ rfl).2
 simp at hs0
 have hb0 := Lib.hid ((ext_alloc (ext_refl w) (.cells #[.int .i64 u, .int .i64 lo, .slice A n c] 26)).grown hgrow0 (by simp) (fun _ h => by cases h))
 have ho0 := Lib.hid (show w0.ownsRow w.heap.size 3 1 (.slice (some ⟨w.heap.size + 1, 0, none⟩) n n) n (intsV (digsTo n m 0)) by rw [digsTo_zero]; rw [World.size_alloc] at hown0; exact own_base hown0 (Nat.le_succ _))
 clear hown0 hgrow0
 go_loopw [1, 6] (fun v i wr => ∃ (j : Nat) (z : Int), j ≤ n ∧ i = .int .i64 z ∧ z = (n : Int) - 1 - j ∧ v = .int .i64 (m / pw j) ∧ Hid (wr.ownsRow w.heap.size 3 1 (.slice (some ⟨w.heap.size + 1, 0, none⟩) n n) n (intsV (digsTo n m j))) ∧ Hid (Below w.heap.size w wr) ∧ w.heap.size + 1 < wr.heap.size) (fun _ i _ => (intOf i + 1).toNat)
 case atStart => exact ⟨0, _, Nat.zero_le _, rfl, by omega, by simp [pw_zero], ho0, hb0, by omega⟩
 case round =>
  obtain ⟨j, z, hj, rfl, hz, rfl, hor, hbr, hsr⟩ := hrel
  have hd0 : 0 ≤ m / pw j := Int.ediv_nonneg m0 (by have := pw_pos j; omega)
  have hd1 : m / pw j ≤ m := Int.ediv_le_self _ m0
  by_cases hlt : j < n
  · obtain ⟨k, hk⟩ : ∃ k : Nat, k = n - 1 - j := ⟨_, rfl⟩
    have hzk : z = (k : Int) := by omega
    have hkn : k < n := by omega
    subst hzk
    have hset := Lib.hid (digsTo_set (n := n) (j := j) m hlt)
    rw [← hk] at hset
    have hlast := Lib.hid (dg_last (n := n) m hlt)
    rw [← hk] at hlast
    have hdiv := Lib.hid (div_pw (m := m) j)
    obtain ⟨y, hy⟩ := list_split (l := digsTo n m j) (k := k) (by rw [digsTo_len]; exact hkn)
    have hcell : wr.cell? ⟨w.heap.size + 1, k, none⟩ = some (.int .i64 y) := by
     have := hor.out.cells rfl k (.int .i64 y) (intsV_get hy)
     rw [add_flat, Nat.zero_add] at this
     exact this
    have hfz := own_frozen hor.out k
    have HK := Lib.hid hk
    clear hy hk hz
    generalize m / pw j = M at *
    go_wp2
    go_roundw
    case rel =>
     refine ⟨j + 1, (k : Int) - 1, by omega, by go_num, by have := HK.out; omega, by rw [hdiv.out], Lib.hid ?_, Lib.hid (hbr.out.setCell (p := ⟨w.heap.size + 1, k, none⟩) (by show w.heap.size ≤ w.heap.size + 1; omega) _), by simpa [World.setCell] using hsr⟩
     have := (hor.out.stored k (.int .i64 (dg n m k))).1
     rw [← intsV_set, hset.out, hlast.out] at this
     exact this
    case measure => simp [intOf]
  · obtain rfl : j = n := by omega
    have hz' : z = -1 := by omega
    subst hz'
    have hall := Lib.hid (digsTo_all j m)
    clear hz
    go_wp2
    go_ret
    exact ⟨_, _, rfl, by rw [← hall.out]; exact hor.out, hbr.out⟩
theorem placeValue_any (u lo : Int) (A : Option Addr) (n c r : Nat) (d : Int) (w : World) (hn : n ≤ 8) (hr : r < n) (d0 : 0 ≤ d) (d9 : d ≤ 9) :
 Calls Try.prog 81 #[frV u lo A n c, .int .i64 (r : Int), .int .i64 d] w fun e w' => e = .returned (.int .i64 (d * pw (n - (r + 1)))) ∧ Below w.heap.size w w' := by
 have hp0 := pw_pos (n - (r + 1))
 have hp1 := pw_lt (n := n - (r + 1)) (by omega)
 have q0 : 0 ≤ d * pw (n - (r + 1)) := Int.mul_nonneg d0 (by omega)
 have q1 : d * pw (n - (r + 1)) ≤ 9 * 100000000 := Int.mul_le_mul d9 hp1 (by omega) (by omega)
 go_enter Try.func81, Try.ntmps81
 go_wp2_with (go_at_call 90; refine (power_at _ (n - (r + 1)) _ (by omega) (by omega)).mono ?_; rintro e w' ⟨rfl, rfl⟩)
 go_ret
 exact ⟨rfl, ext_alloc (ext_refl _) _⟩
/-- what can be taken -/
def canTB (l : List R2) (m : Int) : Bool := inB m 0 (numR l)
theorem canAdd_nonneg {l : List R2} {m : Int} (h : canB l m = true) : 0 ≤ m := by
 simp only [canB, Bool.and_eq_true, inB_iff] at h; exact h.1.1
theorem canAdd_bound {u lo : Int} {l : List R2} {m : Int} (hf : frB u lo l = true) (h : canB l m = true) : m < 200000000 := by
 simp only [canB, Bool.and_eq_true, inB_iff] at h
 have := pw_lt (frB_head hf).2.2.2
 omega
theorem canAdd_fit {l : List R2} {m : Int} (h : canB l m = true) : numD (dsOf l) + m < pw (dsOf l).length := by
 simp only [canB, Bool.and_eq_true, inB_iff] at h
 rw [dsOf_len]
 have : numR l = numD (dsOf l) := rfl
 omega
theorem canTake_nonneg {l : List R2} {m : Int} (h : canTB l m = true) : 0 ≤ m := by
 simp only [canTB, inB_iff] at h; exact h.1
theorem canTake_bound {u lo : Int} {l : List R2} {m : Int} (hf : frB u lo l = true) (h : canTB l m = true) : m < 200000000 := by
 simp only [canTB, inB_iff] at h
 have := numR_bounds hf l.length
 rw [numR_all l _ (Nat.le_refl _)] at this
 omega
theorem canTake_fit {l : List R2} {m : Int} (h : canTB l m = true) : m ≤ numD (dsOf l) := by
 simp only [canTB, inB_iff] at h; exact h.2
theorem addS_ask : ∀ (r : Nat) (d : Int) (s : WS), s.ask ≤ (addS r d s).ask ∧ (addS r d s).ask ≤ s.ask + r := by
 intro r
 induction r with
 | zero => intro d s; simp [addS]
 | succ r ih =>
   intro d s
   by_cases h : 0 < d
   · rw [addS_pos s h]
     have := ih ((s.ds.getD r 0 + d) / 10) ⟨s.ds.set r ((s.ds.getD r 0 + d) % 10), s.ms ++ turnM r (s.ds.getD r 0) ((s.ds.getD r 0 + d) % 10), s.ask + if 0 < (s.ds.getD r 0 + d) / 10 then 1 else 0⟩
     dsimp only at this
     split at this <;> split <;> omega
   · rw [addS_none s h]; omega
theorem takeS_ask : ∀ (r : Nat) (d : Int) (s : WS), s.ask ≤ (takeS r d s).ask ∧ (takeS r d s).ask ≤ s.ask + r := by
 intro r
 induction r with
 | zero => intro d s; simp [takeS]
 | succ r ih =>
   intro d s
   by_cases h : 0 < d
   · by_cases hx : d ≤ s.ds.getD r 0
     · rw [takeS_in s h hx]; dsimp only; omega
     · rw [takeS_left s h hx]
       have := ih 1 ⟨s.ds.set r (s.ds.getD r 0 - d + 10), s.ms ++ turnM r (s.ds.getD r 0) (s.ds.getD r 0 - d + 10), s.ask + 1⟩
       dsimp only at this
       omega
   · rw [takeS_none s h]; omega
theorem addN_ask (n : Nat) (m : Int) (s : WS) (k : Nat) (hk : k ≤ 8) : s.ask ≤ (addN n m s k).ask ∧ (addN n m s k).ask ≤ s.ask + 8 * k := by
 induction k with
 | zero => simp [addN]
 | succ k ih => rw [addN]; have := ih (by omega); have := addS_ask (k + 1) (dg n m k) (addN n m s k); omega
theorem takeN_ask (n : Nat) (m : Int) (s : WS) (k : Nat) (hk : k ≤ 8) : s.ask ≤ (takeN n m s k).ask ∧ (takeN n m s k).ask ≤ s.ask + 8 * k := by
 induction k with
 | zero => simp [takeN]
 | succ k ih => rw [takeN]; have := ih (by omega); have := takeS_ask (k + 1) (dg n m k) (takeN n m s k); omega
/-- a digit that can be added, taken -/
def addDigitB (u lo : Int) (l : List R2) (rod d : Int) : Bool := goodB u lo l && inB rod 0 ((l.length : Int) - 1) && inB d 0 9 && canB l (d * pw (l.length - (rod.toNat + 1)))
def takeDigitB (u lo : Int) (l : List R2) (rod d : Int) : Bool := goodB u lo l && inB rod 0 ((l.length : Int) - 1) && inB d 0 9 && canTB l (d * pw (l.length - (rod.toNat + 1)))
theorem hasRod_b (u lo : Int) (A : Option Addr) (n c : Nat) (m : Int) (b : Bool) (w : World) (hn : n ≤ 1048576) (hb : inB m 0 ((n : Int) - 1) = b) :
 Calls Try.prog 80 #[frV u lo A n c, .int .i64 m] w fun e w' => e = .returned (.bool b) ∧ Below w.heap.size w w' := by
 subst hb
 exact hasRod_any u lo A n c m w hn
theorem within_b (n lo hi : Int) (b : Bool) (w : World) (hb : inB n lo hi = b) :
 Calls Try.prog 34 #[.int .i64 n, .int .i64 lo, .int .i64 hi] w fun e w' => e = .returned (.bool b) ∧ Below w.heap.size w w' := by
 subst hb
 exact (inB_within n lo hi w).mono fun e w' ⟨h, hw⟩ => ⟨h, by rw [← hw]; exact ext_refl _⟩
theorem canAdd_b (u lo : Int) (A : Option Addr) (n c : Nat) (l : List R2) (m : Int) (b : Bool) (w : World) (hf : frB u lo l = true) (h : Reads w w.heap.size 2 A n (rowsV2 l)) (hb : canB l m = b) :
 Calls Try.prog 73 #[frV u lo A n c, .int .i64 m] w fun e w' => e = .returned (.bool b) ∧ Below w.heap.size w w' := by
 subst hb
 exact canAdd_any u lo A n c l m w hf h
end Go.Proofs.Ytaghjaiaoajpiaa
namespace Go.Proofs.Ytaghjaiaoajpiaa
open Go.RowKit
set_option linter.unusedVariables false
set_option linter.unusedSimpArgs false
/-- the sum of the digits of m, of which there are at most f -/
def dsZ : Nat → Int → Int
 | 0, _ => 0
 | f + 1, m => m % 10 + dsZ f (m / 10)
theorem dsZ_zero : ∀ f, dsZ f 0 = 0 := by
 intro f
 induction f with
 | zero => rfl
 | succ f ih => show (0 : Int) % 10 + dsZ f (0 / 10) = 0; rw [show (0 : Int) / 10 = 0 from rfl, ih]; rfl
theorem dsZ_bounds : ∀ f m, 0 ≤ dsZ f m ∧ dsZ f m ≤ 9 * f := by
 intro f
 induction f with
 | zero => intro m; exact ⟨Int.le_refl _, Int.le_refl _⟩
 | succ f ih =>
   intro m
   have := ih (m / 10)
   show 0 ≤ m % 10 + dsZ f (m / 10) ∧ m % 10 + dsZ f (m / 10) ≤ _
   omega
theorem dsZ_num : ∀ f (ds : List Int), WF ds → ds.length ≤ f → dsZ f (numD ds) = ds.sum := by
 intro f
 induction f with
 | zero =>
   intro ds _ h
   have h0 : ds = [] := List.eq_nil_of_length_eq_zero (by omega)
   subst h0
   rfl
 | succ f ih =>
   intro ds hw hl
   rcases List.eq_nil_or_concat ds with rfl | ⟨xs, d, rfl⟩
   · exact dsZ_zero _
   · rw [List.concat_eq_append] at *
     have hx : WF xs := fun z hz => hw z (List.mem_append_left _ hz)
     have hd := hw d (by simp)
     rw [numD_snoc, List.sum_append]
     have h1 : (10 * numD xs + d) % 10 = d := by omega
     have h2 : (10 * numD xs + d) / 10 = numD xs := by omega
     show (10 * numD xs + d) % 10 + dsZ f ((10 * numD xs + d) / 10) = _
     rw [h1, h2, ih xs hx (by simp at hl; omega)]
     simp
     omega
theorem sum_set : ∀ (l : List Int) (i : Nat) (a : Int), i < l.length → (l.set i a).sum = l.sum - l.getD i 0 + a := by
 intro l
 induction l with
 | nil => intro i a h; simp at h
 | cons x l ih =>
   intro i a h
   rcases i with _ | i
   · simp
     omega
   · simp only [List.length_cons] at h
     have := ih i a (by omega)
     simp only [List.set_cons_succ, List.sum_cons, List.getD_cons_succ, this]
     omega
theorem addS_sum : ∀ (r : Nat) (d : Int) (s : WS), AddFit r d s.ds → (addS r d s).ds.sum = s.ds.sum + d - 9 * ((addS r d s).ask - s.ask) := by
 intro r
 induction r with
 | zero => intro d s h; have := h.done; subst this; show s.ds.sum = s.ds.sum + 0 - 9 * (s.ask - s.ask); omega
 | succ r ih =>
   intro d s h
   by_cases h0 : 0 < d
   · rw [addS_pos s h0, ih _ _ h.step]
     show (s.ds.set r _).sum + _ - 9 * (_ - (s.ask + _)) = _
     rw [sum_set _ _ _ h.1]
     have hx := h.2.2.2.1.getD r
     have hd := h.2.2.1
     generalize (addS r ((s.ds.getD r 0 + d) / 10) _).ask = q
     by_cases hc : 0 < (s.ds.getD r 0 + d) / 10
     · rw [if_pos hc]; omega
     · rw [if_neg hc]; omega
   · rw [addS_none s h0]
     have := h.2.1
     omega
theorem takeS_sum : ∀ (r : Nat) (d : Int) (s : WS), TakeFit r d s.ds → (takeS r d s).ds.sum = s.ds.sum - d + 9 * ((takeS r d s).ask - s.ask) := by
 intro r
 induction r with
 | zero => intro d s h; have := h.done; subst this; show s.ds.sum = s.ds.sum - 0 + 9 * (s.ask - s.ask); omega
 | succ r ih =>
   intro d s h
   by_cases h0 : 0 < d
   · by_cases hx : d ≤ s.ds.getD r 0
     · rw [takeS_in s h0 hx]
       show (s.ds.set r _).sum = s.ds.sum - d + 9 * (s.ask - s.ask)
       rw [sum_set _ _ _ h.1]
       omega
     · rw [takeS_left s h0 hx, ih _ _ (h.left hx)]
       show (s.ds.set r _).sum - 1 + 9 * (_ - (s.ask + 1)) = _
       rw [sum_set _ _ _ h.1]
       omega
   · rw [takeS_none s h0]
     have := h.2.1
     omega
def dgS (n : Nat) (m : Int) (k : Nat) : Int := ((List.range k).map (dg n m)).sum
theorem dgS_succ (n : Nat) (m : Int) (k : Nat) : dgS n m (k + 1) = dgS n m k + dg n m k := by
 unfold dgS
 rw [List.range_succ, List.map_append, List.sum_append]
 simp
theorem addN_sum {m : Int} {s : WS} (hw : WF s.ds) (h0 : 0 ≤ m) (hm : numD s.ds + m < pw s.ds.length) : ∀ k, k ≤ s.ds.length → (addN s.ds.length m s k).ds.sum = s.ds.sum + dgS s.ds.length m k - 9 * ((addN s.ds.length m s k).ask - s.ask) := by
 intro k
 induction k with
 | zero => intro _; show s.ds.sum = s.ds.sum + 0 - 9 * (s.ask - s.ask); omega
 | succ k ih =>
   intro hk
   have h1 := ih (by omega)
   have h2 := addS_sum _ _ _ ((addN_facts hw h0 hm k (by omega)).2 (by omega))
   rw [addN, h2, h1, dgS_succ]
   omega
theorem takeN_sum {m : Int} {s : WS} (hw : WF s.ds) (h0 : 0 ≤ m) (hm : m ≤ numD s.ds) : ∀ k, k ≤ s.ds.length → (takeN s.ds.length m s k).ds.sum = s.ds.sum - dgS s.ds.length m k + 9 * ((takeN s.ds.length m s k).ask - s.ask) := by
 intro k
 induction k with
 | zero => intro _; show s.ds.sum = s.ds.sum - 0 + 9 * (s.ask - s.ask); omega
 | succ k ih =>
   intro hk
   have h1 := ih (by omega)
   have h2 := takeS_sum _ _ _ ((takeN_facts hw h0 hm k (by omega)).2 (by omega))
   rw [takeN, h2, h1, dgS_succ]
   omega
theorem digs_part (n : Nat) (m : Int) : ∀ k, k ≤ n → numD ((List.range k).map (dg n m)) = m / pw (n - k) - m / pw n * pw k := by
 intro k
 induction k with
 | zero => intro _; simp [numD, pw_zero]
 | succ k ih =>
   intro hk
   rw [List.range_succ, List.map_append, List.map_cons, List.map_nil, numD_snoc, ih (by omega), pw_succ]
   unfold dg
   have h1 : m / pw (n - k) = m / pw (n - (k + 1)) / 10 := by
    rw [pw_place (by omega), Int.mul_comm, ← Int.ediv_ediv_of_nonneg (by have := pw_pos (n - (k + 1)); omega)]
   rw [h1, Int.mul_sub, Int.mul_left_comm]
   omega
theorem digs_sum {n : Nat} {m : Int} (hn : n ≤ 8) (h0 : 0 ≤ m) (h1 : m < pw n) : dgS n m n = dsZ 10 m := by
 have h2 := digs_part n m n (Nat.le_refl _)
 rw [Nat.sub_self, pw_zero, Int.ediv_one, Int.ediv_eq_zero_of_lt h0 h1] at h2
 have hw : WF ((List.range n).map (dg n m)) := by
  intro d hd
  obtain ⟨k, _, rfl⟩ := List.mem_map.1 hd
  exact dg_bounds n m k
 have h3 := dsZ_num 10 _ hw (by simp; omega)
 rw [h2] at h3
 unfold dgS
 rw [← h3]
 congr 1
 omega
theorem num_sum {ds : List Int} (hw : WF ds) (hn : ds.length ≤ 8) : dsZ 10 (numD ds) = ds.sum := dsZ_num 10 ds hw (by omega)
end Go.Proofs.Ytaghjaiaoajpiaa
namespace Go.Proofs.Ytaghjaiaoajpiaa
open Go.RowKit
set_option linter.unusedVariables false
set_option linter.unusedSimpArgs false
/-- the rods l, of which the last j show m -/
def shTo (l : List R2) (n : Nat) (m : Int) (j : Nat) : List R2 := (List.range n).map fun i => if n - j ≤ i then rodD (dg n m i) else l.getD i ⟨0, 0⟩
theorem shTo_len (l : List R2) (n : Nat) (m : Int) (j : Nat) : (shTo l n m j).length = n := by simp [shTo]
theorem shTo_get {l : List R2} {n : Nat} (m : Int) (j : Nat) {i : Nat} (h : i < n) : (shTo l n m j)[i]? = some (if n - j ≤ i then rodD (dg n m i) else l.getD i ⟨0, 0⟩) := by simp [shTo, h]
theorem shTo_zero {l : List R2} {n : Nat} (m : Int) (h : l.length = n) : shTo l n m 0 = l := by
 refine List.ext_getElem? fun i => ?_
 by_cases hi : i < n
 · rw [shTo_get m 0 hi, if_neg (by omega)]
   obtain ⟨x, hx⟩ := list_split (l := l) (k := i) (by omega)
   rw [hx, List.getD_eq_getElem?_getD, hx]; rfl
 · rw [List.getElem?_eq_none (by rw [shTo_len]; omega), List.getElem?_eq_none (by omega)]
theorem shTo_all (l : List R2) (n : Nat) (m : Int) : shTo l n m n = rodsD (digs n m) := by
 unfold shTo rodsD digs
 rw [List.map_map]
 exact List.map_congr_left fun i _ => by simp
theorem shTo_set {l : List R2} {n j : Nat} (m : Int) (h : j < n) : (shTo l n m j).set (n - 1 - j) (rodD (dg n m (n - 1 - j))) = shTo l n m (j + 1) := by
 refine List.ext_getElem? fun i => ?_
 by_cases hi : i < n
 · rw [shTo_get m (j + 1) hi]
   by_cases he : i = n - 1 - j
   · subst he
     rw [List.getElem?_set_self (by rw [shTo_len]; omega), if_pos (by omega)]
   · rw [List.getElem?_set_ne (by omega), shTo_get m j hi]
     by_cases hc : n - j ≤ i
     · rw [if_pos hc, if_pos (by omega)]
     · rw [if_neg hc, if_neg (by omega)]
 · rw [List.getElem?_eq_none (by rw [List.length_set, shTo_len]; omega), List.getElem?_eq_none (by rw [shTo_len]; omega)]
def RetSh (w : World) (u lo : Int) (n : Nat) (l : List R2) (e : Ending) (w' : World) : Prop := ∃ A c, e = .returned (frV u lo A n c) ∧ w'.ownsRow w.heap.size 42 2 (.slice A n c) n (rowsV2 l) ∧ Below w.heap.size w w'
end Go.Proofs.Ytaghjaiaoajpiaa
namespace Go.Proofs.Ytaghjaiaoajpiaa
open Go.RowKit
set_option linter.unusedVariables false
set_option linter.unusedSimpArgs false
set_option maxRecDepth 100000 in
set_option maxHeartbeats 2000000 in
theorem nrOn_any (u lo : Int) (A : Option Addr) (n c : Nat) (l : List R2) (w : World) (hn : n ≤ 1048576) (h : Reads w w.heap.size 2 A n (rowsV2 l)) :
 Calls Try.prog 10 #[frV u lo A n c] w fun e w' => e = .returned (.tuple #[.int .i64 (if frB u lo l = true then numR l else 0), .bool (frB u lo l)]) ∧ Below w.heap.size w w' := by
 have H := Lib.hid h
 have hbx := Lib.hid (ext_alloc (ext_refl w) (.cells #[.int .i64 u, .int .i64 lo, .slice A n c] 26))
 have BF0 := Lib.hid (Blk.born w #[.int .i64 u, .int .i64 lo, .slice A n c] 26 (H := w.heap.size) rfl)
 have HI := Lib.hid (fun (w : World) a => isFrame_any u lo A n c l w hn a)
 clear h
 cases hf : frB u lo l
 · rw [hf] at HI
   rw [if_neg (by decide)]
   go_enter Try.func10, Try.ntmps10
   go_wp2_with fail
   refine (HI.out _ (rdx H.out hbx.out)).mono ?_
   rintro e w1 ⟨rfl, hb⟩
   go_wp2
   go_ret2
   exact ⟨rfl, ext_trans hbx.out hb⟩
 · rw [hf] at HI
   rw [if_pos rfl]
   have HF := Lib.hid hf
   clear hf
   go_enter Try.func10, Try.ntmps10
   go_wp2_with fail
   refine (HI.out _ (rdx H.out hbx.out)).mono ?_
   rintro e w1 ⟨rfl, hb⟩
   have BF1 := Lib.hid (BF0.out.ext hb)
   have HB1 := Lib.hid (ext_trans hbx.out hb)
   clear hb
   obtain ⟨d0, d1, d2⟩ := BF1.out.q3
   have lf := BF1.out.lt
   go_wp2_with fail
   refine (number_any u lo A n c l _ HF.out (rdx H.out HB1.out)).mono ?_
   rintro e w2 ⟨rfl, hb⟩
   go_wp2
   go_ret2
   exact ⟨rfl, ext_trans HB1.out hb⟩
end Go.Proofs.Ytaghjaiaoajpiaa
