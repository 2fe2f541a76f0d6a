/- Adding a digit, taking a digit: the worker's. -/
import Derived.Test.YtihljhikhplegaaVFrC
import Derived.Test.YtihljhikhplegaaVM1
namespace Go.Proofs.Ytihljhikhplegaa
open Go.RowKit
set_option linter.unusedVariables false
set_option linter.unusedSimpArgs false
theorem addS_step {k : Nat} {d x : Int} {t : WS} (hx : t.ds[k]? = some x) (h : 0 < d) : addS (k + 1) d t = addS k ((x + d) / 10) ⟨t.ds.set k ((x + d) % 10), t.ms ++ turnM k x ((x + d) % 10), t.ask + if 0 < (x + d) / 10 then 1 else 0⟩ := by
 have e : t.ds.getD k 0 = x := by rw [List.getD_eq_getElem?_getD, hx]; rfl
 rw [addS_pos t h, e]
theorem AddFit.next {k : Nat} {d x : Int} {ds : List Int} (hx : ds[k]? = some x) (h : AddFit (k + 1) d ds) : AddFit k ((x + d) / 10) (ds.set k ((x + d) % 10)) := by
 have e : ds.getD k 0 = x := by rw [List.getD_eq_getElem?_getD, hx]; rfl
 have := h.step
 rwa [e] at this
theorem AddFit.zero {k : Nat} {ds : List Int} (h : AddFit k 0 ds) (hk : k < ds.length) : AddFit (k + 1) 0 ds := by
 obtain ⟨h1, h2, h3, h4, h5⟩ := h
 exact ⟨hk, h2, h3, h4, by simpa using h5⟩
theorem addS_zero (a b : Nat) (t : WS) : addS a 0 t = addS b 0 t := by rw [addS_none (r := a) t (by omega), addS_none (r := b) t (by omega)]
theorem takeS_step1 {k : Nat} {d x : Int} {t : WS} (hx : t.ds[k]? = some x) (h : 0 < d) (hd : d ≤ x) : takeS (k + 1) d t = ⟨t.ds.set k (x - d), t.ms ++ turnM k x (x - d), t.ask⟩ := by
 have e : t.ds.getD k 0 = x := by rw [List.getD_eq_getElem?_getD, hx]; rfl
 rw [takeS_in t h (by rw [e]; exact hd), e]
theorem takeS_step2 {k : Nat} {d x : Int} {t : WS} (hx : t.ds[k]? = some x) (h : 0 < d) (hd : ¬ d ≤ x) : takeS (k + 1) d t = takeS k 1 ⟨t.ds.set k (x - d + 10), t.ms ++ turnM k x (x - d + 10), t.ask + 1⟩ := by
 have e : t.ds.getD k 0 = x := by rw [List.getD_eq_getElem?_getD, hx]; rfl
 rw [takeS_left t h (by rw [e]; exact hd), e]
theorem TakeFit.next {k : Nat} {d x : Int} {ds : List Int} (hx : ds[k]? = some x) (h : TakeFit (k + 1) d ds) (hd : ¬ d ≤ x) : TakeFit k 1 (ds.set k (x - d + 10)) := by
 have e : ds.getD k 0 = x := by rw [List.getD_eq_getElem?_getD, hx]; rfl
 have := h.left (by rw [e]; exact hd)
 rwa [e] at this
theorem Wk.asked {w : World} {B g : Nat} {u lo z : Int} {s : WS} (h : Wk w B g u lo s) : Wk (w.setCell ⟨g, 4, none⟩ (.int .i64 z)) B g u lo ⟨s.ds, s.ms, z⟩ := by
 obtain ⟨h, c, c', A, h1, h2, h3, h4⟩ := h
 exact ⟨h, c, c', A, h1.set_ 4 _, h2, own_setF (p := ⟨g, 4, none⟩) h3 (own_nbT h3 h1 (by decide)) _, own_setF (p := ⟨g, 4, none⟩) h4 (own_nbT h4 h1 (by decide)) _⟩
theorem Wk.askedK {w0 w : World} {B g : Nat} {u lo z : Int} {s : WS} (h : Wk w B g u lo s) (hk : KeepT w0 w) : KeepT w0 (w.setCell ⟨g, 4, none⟩ (.int .i64 z)) := by
 obtain ⟨h, c, c', A, h1, _⟩ := h
 exact hk.set h1 (.inl rfl) 4 _
theorem Wk.ask_cell {w : World} {B g : Nat} {u lo : Int} {s : WS} (h : Wk w B g u lo s) : w.cell? ⟨g, 4, none⟩ = some (.int .i64 s.ask) ∧ w.frozen? ⟨g, 4, none⟩ = false := by
 obtain ⟨h, c, c', A, h1, _⟩ := h
 exact ⟨h1.c4, h1.frozen 4⟩
set_option maxRecDepth 100000 in
set_option maxHeartbeats 2000000 in
theorem add_any (B g : Nat) (u lo : Int) (s : WS) (r0 : Nat) (d0 : Int) (w : World) (hW : Wk w B g u lo s) (hf : AddFit (r0 + 1) d0 s.ds) (h8 : s.ds.length ≤ 8) (hms : s.ms.length ≤ 900000) (ha0 : 0 ≤ s.ask) (ha1 : s.ask ≤ 1000000) :
 Calls Try.prog 94 #[.pointer (some ⟨g, 0, none⟩), .int .i64 (r0 : Int), .int .i64 d0] w (Turned w B g u lo (addS (r0 + 1) d0 s)) := by
 have hlt := hW.lt
 have h9 := hf.1
 have HF := Lib.hid hf
 have HW := Lib.hid hW
 clear hf hW
 go_enter Try.func94, Try.ntmps94
 go_wp2
 go_loopw [1, 2] (fun i d wr => ∃ (r : Nat) (z e : Int) (t : WS), i = .int .i64 z ∧ z = (r : Int) - 1 ∧ d = .int .i64 e ∧ Hid (Wk wr B g u lo t) ∧ Hid (AddFit r e t.ds) ∧ Hid (addS r e t = addS (r0 + 1) d0 s) ∧ t.ds.length = s.ds.length ∧ Hid (0 < e → t.ms.length + 2 * r ≤ s.ms.length + 2 * (r0 + 1)) ∧ 0 ≤ t.ask ∧ t.ask + r ≤ s.ask + (r0 + 1) ∧ Below B w wr ∧ Hid (KeepT w wr)) (fun i d _ => (intOf i + 1).toNat + (intOf d).toNat)
 case atStart => exact ⟨r0 + 1, r0, d0, s, rfl, by omega, rfl, HW, HF, Lib.hid rfl, rfl, Lib.hid (fun _ => by omega), ha0, by omega, Below.refl _ _, Lib.hid (KeepT.refl _)⟩
 case round =>
  obtain ⟨r, z, e, t, rfl, hz, rfl, hWr, hfr, heq, hlen, hml, ht0, ht1, hbl, hkp⟩ := hrel
  by_cases he : 0 < e
  · obtain ⟨k, hrk, hk⟩ := hfr.out.rod he
    subst hrk
    have hzk : z = (k : Int) := by omega
    subst hzk
    clear hz
    obtain ⟨x, hx⟩ := list_split hk
    obtain ⟨x0, x9⟩ := hfr.out.2.2.2.1.get hx
    have e9 := hfr.out.2.2.1
    have hml := hml.out he
    have hnext := Lib.hid (hfr.out.next hx)
    have hstep := Lib.hid (addS_step (t := t) hx he)
    have HX := Lib.hid hx
    clear hx
    go_wp2_with fail
    refine (value_any B g u lo t k x _ hWr.out HX.out x0 x9).mono ?_
    rintro e1 w1 ⟨rfl, hb1⟩
    have hW1 := Lib.hid (hWr.out.ext hb1)
    have hk1 := Lib.hid (hkp.out.trans (KeepT.of_ext hb1))
    have hb1 := Lib.hid (hbl.trans (hb1.mono (by have := hbl.size; have := hWr.out.lt; omega)))
    have y0 : 0 ≤ (x + e) % 10 := by omega
    have y9 : (x + e) % 10 ≤ 9 := by omega
    go_wp2_with fail
    refine (turn_any B g u lo t k x ((x + e) % 10) _ hW1.out HX.out x0 x9 y0 y9 (by omega)).mono ?_
    rintro e2 w2 ⟨rfl, hW2, hb2, hk2⟩
    have hb2 := Lib.hid (hb1.out.trans hb2)
    have hk2 := Lib.hid (hk1.out.trans hk2)
    have hml2 := turnM_len k x ((x + e) % 10)
    obtain ⟨a4, f4⟩ := hW2.ask_cell
    have hW2 := Lib.hid hW2
    have hg2 := hW2.out.lt
    by_cases hc : 0 < (x + e) / 10
    · go_wp2
      go_roundw
      case rel => exact ⟨k, (k : Int) - 1, (x + e) / 10, ⟨t.ds.set k ((x + e) % 10), t.ms ++ turnM k x ((x + e) % 10), t.ask + 1⟩, rfl, rfl, rfl, Lib.hid hW2.out.asked, hnext, Lib.hid (by rw [← heq.out, hstep.out, if_pos hc]), by simpa using hlen, Lib.hid (fun _ => by simp only [List.length_append]; omega), by dsimp only; omega, by dsimp only; omega, hb2.out.setCell (p := ⟨g, 4, none⟩) hg2.1 _, Lib.hid (hW2.out.askedK hk2.out)⟩
      case measure => simp [intOf]; omega
    · have hw0 := Lib.hid (show (x + e) / 10 = 0 by omega)
      have hnx := hnext.out
      rw [hw0.out] at hnx
      have hnx := Lib.hid (hnx.zero (by rw [List.length_set]; exact hk))
      have hst := hstep.out
      rw [hw0.out, if_neg (by omega), Int.add_zero, addS_zero k (k + 1)] at hst
      have hst := Lib.hid hst
      go_wp2
      go_roundw
      case rel => exact ⟨k + 1, (k : Int), 0, ⟨t.ds.set k ((x + e) % 10), t.ms ++ turnM k x ((x + e) % 10), t.ask⟩, rfl, by omega, by rw [hw0.out], hW2, hnx, Lib.hid (by rw [← heq.out, hst.out]), by simpa using hlen, Lib.hid (fun h => by omega), by dsimp only; omega, by dsimp only; omega, hb2.out, hk2⟩
      case measure => have := hw0.out; simp [intOf]; omega
  · have hend := Lib.hid (addS_none (r := r) t he)
    go_wp2
    refine bodyPost_ret (v := .tuple #[]) (by simp [results, Try.results94, go_sem]) rfl ?_
    exact ⟨rfl, by rw [← heq.out, hend.out]; exact hWr.out, hbl, hkp.out⟩
set_option maxRecDepth 100000 in
set_option maxHeartbeats 2000000 in
theorem take_any (B g : Nat) (u lo : Int) (s : WS) (r0 : Nat) (d0 : Int) (w : World) (hW : Wk w B g u lo s) (hf : TakeFit (r0 + 1) d0 s.ds) (h8 : s.ds.length ≤ 8) (hms : s.ms.length ≤ 900000) (ha0 : 0 ≤ s.ask) (ha1 : s.ask ≤ 1000000) :
 Calls Try.prog 96 #[.pointer (some ⟨g, 0, none⟩), .int .i64 (r0 : Int), .int .i64 d0] w (Turned w B g u lo (takeS (r0 + 1) d0 s)) := by
 have hlt := hW.lt
 have h9 := hf.1
 have HF := Lib.hid hf
 have HW := Lib.hid hW
 clear hf hW
 go_enter Try.func96, Try.ntmps96
 go_wp2
 go_loopw [1, 2] (fun i d wr => ∃ (r : Nat) (z e : Int) (t : WS), i = .int .i64 z ∧ z = (r : Int) - 1 ∧ d = .int .i64 e ∧ Hid (Wk wr B g u lo t) ∧ Hid (TakeFit r e t.ds) ∧ Hid (takeS r e t = takeS (r0 + 1) d0 s) ∧ t.ds.length = s.ds.length ∧ t.ms.length + 2 * r ≤ s.ms.length + 2 * (r0 + 1) ∧ 0 ≤ t.ask ∧ t.ask + r ≤ s.ask + (r0 + 1) ∧ Below B w wr ∧ Hid (KeepT w wr)) (fun i _ _ => (intOf i + 1).toNat)
 case atStart => exact ⟨r0 + 1, r0, d0, s, rfl, by omega, rfl, HW, HF, Lib.hid rfl, rfl, by omega, ha0, by omega, Below.refl _ _, Lib.hid (KeepT.refl _)⟩
 case round =>
  obtain ⟨r, z, e, t, rfl, hz, rfl, hWr, hfr, heq, hlen, hml, ht0, ht1, hbl, hkp⟩ := hrel
  by_cases he : 0 < e
  · obtain ⟨k, hrk, hk⟩ := hfr.out.rod he
    subst hrk
    have hzk : z = (k : Int) := by omega
    subst hzk
    clear hz
    obtain ⟨x, hx⟩ := list_split hk
    obtain ⟨x0, x9⟩ := hfr.out.2.2.2.1.get hx
    have e9 := hfr.out.2.2.1
    have HX := Lib.hid hx
    clear hx
    go_wp2_with fail
    refine (value_any B g u lo t k x _ hWr.out HX.out x0 x9).mono ?_
    rintro e1 w1 ⟨rfl, hb1⟩
    have hW1 := Lib.hid (hWr.out.ext hb1)
    have hk1 := Lib.hid (hkp.out.trans (KeepT.of_ext hb1))
    have hb1 := Lib.hid (hbl.trans (hb1.mono (by have := hbl.size; have := hWr.out.lt; omega)))
    by_cases hc : e ≤ x
    · have hstep := Lib.hid (takeS_step1 (t := t) HX.out he hc)
      have y0 : 0 ≤ x - e := by omega
      have y9 : x - e ≤ 9 := by omega
      go_wp2_with fail
      refine (turn_any B g u lo t k x (x - e) _ hW1.out HX.out x0 x9 y0 y9 (by omega)).mono ?_
      rintro e2 w2 ⟨rfl, hW2, hb2, hk2⟩
      have hb2 := Lib.hid (hb1.out.trans hb2)
      have hk2 := Lib.hid (hk1.out.trans hk2)
      have hW2 := Lib.hid hW2
      go_wp2
      refine bodyPost_ret (v := .tuple #[]) (by simp [results, Try.results96, go_sem]) rfl ?_
      exact ⟨rfl, by rw [← heq.out, hstep.out]; exact hW2.out, hb2.out, hk2.out⟩
    · have hstep := Lib.hid (takeS_step2 (t := t) HX.out he hc)
      have hnext := Lib.hid (hfr.out.next HX.out hc)
      have y0 : 0 ≤ x - e + 10 := by omega
      have y9 : x - e + 10 ≤ 9 := by omega
      have hneg : ¬ 0 ≤ x - e := by omega
      go_wp2_with fail
      refine (turn_any B g u lo t k x (x - e + 10) _ hW1.out HX.out x0 x9 y0 y9 (by omega)).mono ?_
      rintro e2 w2 ⟨rfl, hW2, hb2, hk2⟩
      have hb2 := Lib.hid (hb1.out.trans hb2)
      have hk2 := Lib.hid (hk1.out.trans hk2)
      have hml2 := turnM_len k x (x - e + 10)
      obtain ⟨a4, f4⟩ := hW2.ask_cell
      have hW2 := Lib.hid hW2
      have hg2 := hW2.out.lt
      go_wp2
      go_roundw
      case rel => exact ⟨k, (k : Int) - 1, 1, ⟨t.ds.set k (x - e + 10), t.ms ++ turnM k x (x - e + 10), t.ask + 1⟩, rfl, rfl, rfl, Lib.hid hW2.out.asked, hnext, Lib.hid (by rw [← heq.out, hstep.out]), by simpa using hlen, by simp only [List.length_append]; omega, by dsimp only; omega, by dsimp only; omega, hb2.out.setCell (p := ⟨g, 4, none⟩) hg2.1 _, Lib.hid (hW2.out.askedK hk2.out)⟩
      case measure => simp [intOf]
  · have hend := Lib.hid (takeS_none (r := r) t he)
    go_wp2
    refine bodyPost_ret (v := .tuple #[]) (by simp [results, Try.results96, go_sem]) rfl ?_
    exact ⟨rfl, by rw [← heq.out, hend.out]; exact hWr.out, hbl, hkp.out⟩
end Go.Proofs.Ytihljhikhplegaa
namespace Go.Proofs.Ytihljhikhplegaa
open Go.RowKit
set_option linter.unusedVariables false
set_option linter.unusedSimpArgs false
/-- what is read stays in a world that only has more -/
theorem rdx {w w' : World} {size n : Nat} {A : Option Addr} {xs : List Value} (h : Reads w w.heap.size size A n xs) (hb : Below w.heap.size w w') : Reads w' w'.heap.size size A n xs := (h.below hb).more hb.size
def goodB (u lo : Int) (l : List R2) : Bool := frB u lo l && stdB l
/-- nothing comes back but this -/
def RetV (v : Value) (w : World) (e : Ending) (w' : World) : Prop := e = .returned v ∧ Below w.heap.size w w'
/-- a worker comes back -/
def RetWk (w : World) (u lo : Int) (s : WS) (e : Ending) (w' : World) : Prop := ∃ g, e = .returned (.tuple #[.pointer (some ⟨g, 0, none⟩), .bool true]) ∧ Wk w' w.heap.size g u lo s ∧ Below w.heap.size w w'
theorem Wk.mono {w : World} {B B' g : Nat} {u lo : Int} {s : WS} (h : Wk w B g u lo s) (hB : B' ≤ B) : Wk w B' g u lo s := by
 obtain ⟨h, c, c', A, h1, h2, h3, h4⟩ := h
 exact ⟨h, c, c', A, h1, by omega, own_base h3 hB, own_base h4 hB⟩
theorem begin_no (u lo : Int) (A : Option Addr) (n c : Nat) (l : List R2) (w : World) (hn : n ≤ 1048576) (h : Reads w w.heap.size 2 A n (rowsV2 l)) (hg : goodB u lo l = false) :
 Calls Try.prog 65 #[frV u lo A n c] w (RetV (.tuple #[.pointer none, .bool false]) w) := by
 have H := Lib.hid h
 clear h
 cases hf : frB u lo l
 · have hg := Lib.hid hg
   go_enter Try.func65, Try.ntmps65
   go_wp2_with fail
   refine (isFrame_any u lo A n c l _ hn (rdx H.out (ext_alloc (ext_refl w) _))).mono ?_
   rw [hf]
   rintro e w1 ⟨rfl, hb1⟩
   go_wp2
   go_ret2
   exact ⟨rfl, (by repeat (first | exact ext_refl _ | assumption | refine ext_alloc ?_ _ | refine ext_drew ?_ | refine ext_drewN ?_ _ | refine ext_set ?_ (by simp <;> omega) _ | refine ext_trans ?_ (by assumption)))⟩
 · have hs : stdB l = false := by simpa [goodB, hf] using hg
   have hg := Lib.hid hg
   go_enter Try.func65, Try.ntmps65
   go_wp2_with fail
   refine (isFrame_any u lo A n c l _ hn (rdx H.out (ext_alloc (ext_refl w) _))).mono ?_
   rw [hf]
   rintro e w1 ⟨rfl, hb1⟩
   have hb2 := ext_trans (ext_alloc (ext_refl w) _) hb1
   obtain ⟨hc, hff⟩ := bcell hb1
   have hz : w.heap.size < w1.heap.size := by have := hb1.size; simp at this; omega
   go_wp2_with fail
   refine (standard_any u lo A n c l _ hn (rdx H.out hb2)).mono ?_
   rw [hs]
   rintro e w3 ⟨rfl, hb3⟩
   go_wp2
   go_ret2
   exact ⟨rfl, ext_trans hb2 hb3⟩
set_option maxRecDepth 100000 in
theorem begin_yes (u lo : Int) (A : Option Addr) (n c : Nat) (l : List R2) (w : World) (hn : n ≤ 1048576) (h : Reads w w.heap.size 2 A n (rowsV2 l)) (hg : goodB u lo l = true) :
 Calls Try.prog 65 #[frV u lo A n c] w (RetWk w u lo ⟨dsOf l, [], 0⟩) := by
 have hl := rows_len2 h
 obtain ⟨hf, hs⟩ : frB u lo l = true ∧ stdB l = true := by simpa [goodB] using hg
 have hn1 := (frB_head hf).2.2.1
 rw [hl] at hn1
 have HL := Lib.hid (show (dsOf l).length = n by rw [dsOf_len, hl])
 have HR := Lib.hid (rodsD_dsOf hf hs)
 have H := Lib.hid h
 have hg := Lib.hid hg
 clear h hl
 go_enter Try.func65, Try.ntmps65
 go_wp2_with fail
 refine (isFrame_any u lo A n c l _ hn (rdx H.out (ext_alloc (ext_refl w) _))).mono ?_
 rw [hf]
 rintro e w1 ⟨rfl, hb1⟩
 have hb2 := Lib.hid (ext_trans (ext_alloc (ext_refl w) _) hb1)
 have BF1 := Lib.hid ((Blk.born w #[.int .i64 u, .int .i64 lo, .slice A n c] 26 rfl).ext hb1)
 obtain ⟨a0, a1, a2⟩ := BF1.out.q3
 clear hb1
 go_wp2_with fail
 refine (standard_any u lo A n c l _ hn (rdx H.out hb2.out)).mono ?_
 rw [hs]
 rintro e w3 ⟨rfl, hb3⟩
 have hb4 := Lib.hid (ext_trans hb2.out hb3)
 have BF3 := Lib.hid (BF1.out.ext hb3)
 obtain ⟨a0', a1', a2'⟩ := BF3.out.q3
 clear hb3 a0 a1 a2
 go_wp2_with fail
 refine (own_fr u lo A n c l _ hn1 hn (rdx H.out hb4.out)).mono ?_
 rintro e w5 ⟨g, c', rfl, hr, hb5⟩
 have hr := Lib.hid (own_base hr hb4.out.size)
 have hb6 := Lib.hid (ext_trans hb4.out hb5)
 clear hb5 a0' a1' a2'
 go_wp2
 go_ret2
 refine ⟨_, rfl, ⟨g, c', 0, none, ?_, hb6.out.size, ?_, ?_⟩, ext_alloc hb6.out _⟩
 · rw [HL.out]; exact Blk.born _ _ _ rfl
 · rw [HL.out, HR.out]; exact hr.out.alloc _
 · exact World.ownsRow_nil _ _ _ _
theorem fitsOn_b (u lo : Int) (A : Option Addr) (n c : Nat) (m : Int) (b : Bool) (w : World) (hn : n ≤ 8) (hb : inB m 0 (pw n - 1) = b) :
 Calls Try.prog 53 #[frV u lo A n c, .int .i64 m] w fun e w' => e = .returned (.bool b) ∧ Below w.heap.size w w' := by
 subst hb
 exact fitsOn_any u lo A n c m w hn
/-- what can be added -/
def canB (l : List R2) (m : Int) : Bool := inB m 0 (pw l.length - 1) && inB (numR l + m) 0 (pw l.length - 1)
set_option maxRecDepth 100000 in
theorem canAdd_any (u lo : Int) (A : Option Addr) (n c : Nat) (l : List R2) (m : Int) (w : World) (hf : frB u lo l = true) (h : Reads w w.heap.size 2 A n (rowsV2 l)) :
 Calls Try.prog 92 #[frV u lo A n c, .int .i64 m] w (RetV (.bool (canB l m)) w) := by
 have hl := rows_len2 h
 have hn8 := (frB_head hf).2.2.2
 rw [hl] at hn8
 have hp0 := pw_pos n
 have hp1 := pw_lt hn8
 have hnb := numR_bounds hf l.length
 rw [numR_all l _ (Nat.le_refl _)] at hnb
 have H := Lib.hid h
 have HF := Lib.hid hf
 have E : Hid (canB l m = (inB m 0 (pw n - 1) && inB (numR l + m) 0 (pw n - 1))) := Lib.hid (by rw [← hl]; rfl)
 clear h hl hf
 cases hb : inB m 0 (pw n - 1)
 · go_enter Try.func92, Try.ntmps92
   go_wp2_with fail
   (refine wp_region_later (by kernel_rfl) (by kernel_rfl) ?_; (repeat (go_big_quiet_step (first | (go_at_call 53; with_reducible exact Calls.later_of (fitsOn_b u lo A n c m _ _ hn8 hb))))); refine wpQuiet_nil ?_; intro w1 hw1; obtain ⟨⟨wl, hbL⟩, hw1'⟩ := hw1; simp only at hw1'; subst hw1'; obtain ⟨hcL, hfL⟩ := bcell hbL)
   go_wp2
   go_ret
   exact ⟨ret_bool (by rw [E.out, hb]; rfl), (by repeat (first | exact ext_refl _ | assumption | refine ext_alloc ?_ _ | refine ext_drew ?_ | refine ext_drewN ?_ _ | refine ext_set ?_ (by simp <;> omega) _ | refine ext_trans ?_ (by assumption)))⟩
 · have hm := inB_iff.1 hb
   obtain ⟨m0, m1⟩ := hm
   obtain ⟨n0, n1⟩ := hnb
   go_enter Try.func92, Try.ntmps92
   go_wp2_with fail
   (refine wp_region_later (by kernel_rfl) (by kernel_rfl) ?_; (repeat (go_big_quiet_step (first | (go_at_call 53; with_reducible exact Calls.later_of (fitsOn_b u lo A n c m _ _ hn8 hb)) | (go_at_call 53; exact Calls.later_of (fitsOn_any u lo A n c _ _ hn8)) | (go_at_call 55; exact Calls.later_of (number_any u lo A n c l _ HF.out (rdx (rdx H.out (ext_alloc (ext_refl w) _)) (Later.h _))))))); refine wpQuiet_nil ?_; intro w1 hw1; obtain ⟨⟨wl, hbL⟩, hw1'⟩ := hw1; simp only at hw1'; subst hw1'; obtain ⟨hcL, hfL⟩ := bcell hbL)
   go_wp2
   go_ret
   exact ⟨ret_bool (by rw [E.out, hb]; rfl), (by repeat (first | exact ext_refl _ | assumption | refine ext_alloc ?_ _ | refine ext_drew ?_ | refine ext_drewN ?_ _ | refine ext_set ?_ (by simp <;> omega) _ | refine ext_trans ?_ (by assumption)))⟩
theorem canTake_any (u lo : Int) (A : Option Addr) (n c : Nat) (l : List R2) (m : Int) (w : World) (hf : frB u lo l = true) (h : Reads w w.heap.size 2 A n (rowsV2 l)) :
 Calls Try.prog 95 #[frV u lo A n c, .int .i64 m] w (RetV (.bool (inB m 0 (numR l))) w) := by
 have H := Lib.hid h
 have HF := Lib.hid hf
 clear h hf
 go_enter Try.func95, Try.ntmps95
 go_wp2_with fail
 refine (number_any u lo A n c l _ HF.out (rdx H.out (ext_alloc (ext_refl w) _))).mono ?_
 rintro e w1 ⟨rfl, hb1⟩
 go_wp2_with (go_at_call 52; refine (inB_within _ _ _ _).mono ?_; rintro e w' ⟨rfl, rfl⟩)
 go_ret
 exact ⟨rfl, ext_trans (ext_alloc (ext_refl w) _) hb1⟩
end Go.Proofs.Ytihljhikhplegaa
namespace Go.Proofs.Ytihljhikhplegaa
open Go.RowKit
set_option linter.unusedVariables false
set_option linter.unusedSimpArgs false
/-- the box of a frame, behind it only more -/
theorem box_frame {w wr : World} {u lo : Int} {A : Option Addr} {n c : Nat} (hb : Below (w.heap.size + 1) (w.alloc (.cells #[.int .i64 u, .int .i64 lo, .slice A n c] 26)) wr) :
 Blk wr w.heap.size 26 #[.int .i64 u, .int .i64 lo, .slice A n c] ∧ Below w.heap.size w wr ∧ w.heap.size < wr.heap.size := by
 have hs := hb.size
 simp at hs
 exact ⟨(Blk.born w _ _ rfl).below hb (by omega), ((ext_refl w).alloc (Nat.le_refl _) _).trans (hb.mono (Nat.le_succ _)), by omega⟩
theorem l1In_b (n lo hi : Int) (b : Bool) (w : World) (hb : inB n lo hi = b) :
 Calls Try.prog 50 #[.int .i64 n, .int .i64 lo, .int .i64 hi] w fun e w' => e = .returned (.bool b) ∧ Below w.heap.size w w' := by
 subst hb
 exact (inB_l1In n lo hi w).mono fun e w' ⟨h, hw⟩ => ⟨h, by rw [← hw]; exact ext_refl _⟩
set_option maxRecDepth 100000 in
set_option maxHeartbeats 1000000 in
theorem l2Good_any (u lo : Int) (A : Option Addr) (n c : Nat) (l : List R2) (w : World) (hn : n ≤ 1048576) (h : Reads w w.heap.size 2 A n (rowsV2 l)) :
 Calls Try.prog 82 #[frV u lo A n c] w (RetV (.bool (frB u lo l)) w) := by
 have hl := rows_len2 h
 have H := Lib.hid h
 have HL := Lib.hid hl
 clear h hl
 have E : Hid (frB u lo l = (inB u 1 2 && inB lo 4 5 && inB n 1 8 && l.all (rodB u lo))) := Lib.hid (by rw [← HL.out]; rfl)
 go_enter Try.func82, Try.ntmps82
 go_wp2
 go_loopw [3] (fun i wr => ∃ k : Nat, k ≤ n ∧ i = .int .i64 k ∧ Hid (Below (w.heap.size + 1) (w.alloc (.cells #[.int .i64 u, .int .i64 lo, .slice A n c] 26)) wr) ∧ Hid ((l.take k).all (rodB u lo) = true)) (fun i _ => n - (intOf i).toNat)
 case atStart => exact ⟨0, Nat.zero_le _, rfl, Lib.hid (Below.refl _ _), Lib.hid rfl⟩
 case round =>
  obtain ⟨k, hk, rfl, hbl, hok⟩ := hrel
  obtain ⟨BF, hb0, hs0⟩ := box_frame hbl.out
  have hb0 := Lib.hid hb0
  obtain ⟨d0, d1, d2⟩ := BF.q3
  clear BF
  by_cases hlt : k < n
  · obtain ⟨r, hr⟩ := list_split (l := l) (k := k) (by rw [HL.out]; exact hlt)
    obtain ⟨b, o, rfl, hb, c0, c1⟩ := rows_at2 (rdx H.out hb0.out) hr
    cases ha : inB r.a 0 u
    · have hbad := Lib.hid (all_bad (p := rodB u lo) hr (by simp [rodB, ha]))
      clear hr
      go_wp2
      (refine wp_region_later (by kernel_rfl) (by kernel_rfl) ?_; (repeat (go_big_quiet_step (first | (go_at_call 50; with_reducible exact Calls.later_of (l1In_b _ _ _ _ _ ha))))); refine wpQuiet_nil ?_; intro w1 hw1; obtain ⟨⟨wl, hbL⟩, hw1'⟩ := hw1; simp only at hw1'; subst hw1'; obtain ⟨hcL, hfL⟩ := bcell hbL)
      have hb3 := Lib.hid (ext_trans hb0.out hbL)
      clear hbL hcL hfL
      go_wp2
      go_ret
      exact ⟨ret_bool (by rw [E.out, hbad.out]; simp), hb3.out⟩
    cases hb2 : inB r.b 0 lo
    · have hbad := Lib.hid (all_bad (p := rodB u lo) hr (by simp [rodB, ha, hb2]))
      clear hr
      go_wp2
      (refine wp_region_later (by kernel_rfl) (by kernel_rfl) ?_; (repeat (go_big_quiet_step (first | (go_at_call 50; with_reducible exact Calls.later_of (l1In_b _ _ _ _ _ ha)) | (go_at_call 50; with_reducible exact Calls.later_of (l1In_b _ _ _ _ _ hb2))))); refine wpQuiet_nil ?_; intro w1 hw1; obtain ⟨⟨wl, hbL⟩, hw1'⟩ := hw1; simp only at hw1'; subst hw1'; obtain ⟨hcL, hfL⟩ := bcell hbL)
      have hb3 := Lib.hid (ext_trans hb0.out hbL)
      clear hbL hcL hfL
      go_wp2
      go_ret
      exact ⟨ret_bool (by rw [E.out, hbad.out]; simp), hb3.out⟩
    have hgood := Lib.hid (all_snoc hok.out hr (by simp [rodB, ha, hb2]))
    clear hr
    go_wp2
    (refine wp_region_later (by kernel_rfl) (by kernel_rfl) ?_; (repeat (go_big_quiet_step (first | (go_at_call 50; with_reducible exact Calls.later_of (l1In_b _ _ _ _ _ ha)) | (go_at_call 50; with_reducible exact Calls.later_of (l1In_b _ _ _ _ _ hb2))))); refine wpQuiet_nil ?_; intro w1 hw1; obtain ⟨⟨wl, hbL⟩, hw1'⟩ := hw1; simp only at hw1'; subst hw1'; obtain ⟨hcL, hfL⟩ := bcell hbL)
    go_wp2
    go_roundw
    case rel => exact ⟨k + 1, by omega, by go_num, Lib.hid (hbl.out.trans (hbL.mono hs0)), hgood⟩
    case measure => simp [intOf]; omega
  · obtain rfl : k = n := by omega
    have hall := Lib.hid (all_whole hok.out (by rw [HL.out]; exact Nat.le_refl _))
    cases h1 : inB u 1 2
    · go_wp2_with (go_at_call 50; refine (inB_l1In _ _ _ _).mono ?_; rintro e w' ⟨rfl, rfl⟩)
      go_ret
      exact ⟨ret_bool (by rw [E.out, h1]; rfl), hb0.out⟩
    cases h2 : inB lo 4 5
    · go_wp2_with (go_at_call 50; refine (inB_l1In _ _ _ _).mono ?_; rintro e w' ⟨rfl, rfl⟩)
      go_ret
      exact ⟨ret_bool (by rw [E.out, h1, h2]; rfl), hb0.out⟩
    cases h3 : inB (k : Int) 1 8
    · go_wp2_with (go_at_call 50; refine (inB_l1In _ _ _ _).mono ?_; rintro e w' ⟨rfl, rfl⟩)
      go_ret
      exact ⟨ret_bool (by rw [E.out, h1, h2, h3]; rfl), hb0.out⟩
    go_wp2_with (go_at_call 50; refine (inB_l1In _ _ _ _).mono ?_; rintro e w' ⟨rfl, rfl⟩)
    go_ret
    exact ⟨ret_bool (by rw [E.out, h1, h2, h3, hall.out]; rfl), hb0.out⟩
theorem l2Value_any (r : R2) (w : World) (h : Sm r) :
 Calls Try.prog 85 #[r.val] w fun e w' => e = .returned (.int .i64 (dv r)) ∧ Below w.heap.size w w' := by
 obtain ⟨⟨h1, h2⟩, h3, h4⟩ := h
 go_enter Try.func85, Try.ntmps85
 go_wp2
 go_ret
 exact ⟨rfl, (by repeat (first | exact ext_refl _ | assumption | refine ext_alloc ?_ _ | refine ext_drew ?_ | refine ext_drewN ?_ _ | refine ext_set ?_ (by simp <;> omega) _ | refine ext_trans ?_ (by assumption)))⟩
theorem frB_Sm {u lo : Int} {l : List R2} (h : frB u lo l = true) {k : Nat} {r : R2} (hr : l[k]? = some r) : Sm r := by
 have h1 := frB_rod h hr
 have h2 := frB_head h
 unfold Sm
 omega
set_option maxHeartbeats 1000000 in
theorem l2Number_any (u lo : Int) (A : Option Addr) (n c : Nat) (l : List R2) (w : World) (hf : frB u lo l = true) (h : Reads w w.heap.size 2 A n (rowsV2 l)) :
 Calls Try.prog 104 #[frV u lo A n c] w fun e w' => e = .returned (.int .i64 (numR l)) ∧ Below w.heap.size w w' := by
 have hl := rows_len2 h
 obtain ⟨hu, hlo, hn1, hn8⟩ := frB_head hf
 rw [hl] at hn1 hn8
 have HF := Lib.hid hf
 have H := Lib.hid h
 have HL := Lib.hid hl
 clear h hl hf
 go_enter Try.func104, Try.ntmps104
 go_wp2
 go_loopw [3, 4] (fun s i wr => ∃ k : Nat, k ≤ n ∧ i = .int .i64 k ∧ s = .int .i64 (numR (l.take k)) ∧ Hid (Below (w.heap.size + 1) (w.alloc (.cells #[.int .i64 u, .int .i64 lo, .slice A n c] 26)) wr)) (fun _ i _ => n - (intOf i).toNat)
 case atStart => exact ⟨0, Nat.zero_le _, rfl, rfl, Lib.hid (Below.refl _ _)⟩
 case round =>
  obtain ⟨k, hk, rfl, rfl, hbl⟩ := hrel
  obtain ⟨BF, hb0, hs0⟩ := box_frame hbl.out
  have hb0 := Lib.hid hb0
  obtain ⟨d0, d1, d2⟩ := BF.q3
  clear BF
  obtain ⟨m0, m1⟩ := numR_bounds HF.out k
  by_cases hlt : k < n
  · obtain ⟨r, hr⟩ := list_split (l := l) (k := k) (by rw [HL.out]; exact hlt)
    obtain ⟨b, o, rfl, hb, c0, c1⟩ := rows_at2 (rdx H.out hb0.out) hr
    have hsm := frB_Sm HF.out hr
    obtain ⟨r1, r2, r3, r4⟩ := frB_rod HF.out hr
    have hnew := Lib.hid (numR_take hr)
    have hv0 : 0 ≤ dv r := by unfold dv; omega
    have hv1 : dv r ≤ 1000 := by unfold dv; omega
    have hdv := Lib.hid (show dv r = 5 * r.a + r.b from rfl)
    clear hr
    generalize numR (l.take k) = M at *
    go_wp2_with fail
    refine (l2Value_any r _ hsm).mono ?_
    rintro e w1 ⟨rfl, hb1⟩
    go_wp2
    go_roundw
    case rel => exact ⟨k + 1, by omega, by go_num, by rw [hnew.out, ← hdv.out], Lib.hid (hbl.out.trans (hb1.mono hs0))⟩
    case measure => simp [intOf]; omega
  · obtain rfl : k = n := by omega
    have hall := Lib.hid (numR_all l k (by rw [HL.out]; exact Nat.le_refl _))
    go_wp2
    go_ret
    exact ⟨ret_int (by rw [hall.out]), hb0.out⟩
theorem goodB_comm (u lo : Int) (l : List R2) : goodB u lo l = (stdB l && frB u lo l) := by unfold goodB; exact Bool.and_comm _ _
set_option maxHeartbeats 1000000 in
theorem l2Standard_any (u lo : Int) (A : Option Addr) (n c : Nat) (l : List R2) (w : World) (hn : n ≤ 1048576) (h : Reads w w.heap.size 2 A n (rowsV2 l)) :
 Calls Try.prog 67 #[frV u lo A n c] w (RetV (.bool (goodB u lo l)) w) := by
 have hl := rows_len2 h
 have H := Lib.hid h
 have HL := Lib.hid hl
 clear h hl
 go_enter Try.func67, Try.ntmps67
 go_wp2
 go_loopw [3] (fun i wr => ∃ k : Nat, k ≤ n ∧ i = .int .i64 k ∧ Hid (Below (w.heap.size + 1) (w.alloc (.cells #[.int .i64 u, .int .i64 lo, .slice A n c] 26)) wr) ∧ Hid ((l.take k).all stdR = true)) (fun i _ => n - (intOf i).toNat)
 case atStart => exact ⟨0, Nat.zero_le _, rfl, Lib.hid (Below.refl _ _), Lib.hid rfl⟩
 case round =>
  obtain ⟨k, hk, rfl, hbl, hok⟩ := hrel
  obtain ⟨BF, hb0, hs0⟩ := box_frame hbl.out
  have hb0 := Lib.hid hb0
  obtain ⟨d0, d1, d2⟩ := BF.q3
  clear BF
  by_cases hlt : k < n
  · obtain ⟨r, hr⟩ := list_split (l := l) (k := k) (by rw [HL.out]; exact hlt)
    obtain ⟨b, o, rfl, hb, c0, c1⟩ := rows_at2 (rdx H.out hb0.out) hr
    by_cases hgd : r.a ≤ 1 ∧ r.b ≤ 4
    · have hgood := Lib.hid (all_snoc hok.out hr (std_good hgd.1 hgd.2))
      obtain ⟨g1, g2⟩ := hgd
      clear hr
      go_wp2
      go_roundw
      case rel => exact ⟨k + 1, by omega, by go_num, hbl, hgood⟩
      case measure => simp [intOf]; omega
    · have hbad := Lib.hid (all_bad hr (std_bad hgd))
      clear hr
      go_wp2
      all_goals first
       | (go_ret; exact ⟨ret_bool (by rw [goodB_comm]; unfold stdB; rw [hbad.out]; rfl), hb0.out⟩)
       | (exfalso; omega)
  · obtain rfl : k = n := by omega
    have hall := Lib.hid (show goodB u lo l = frB u lo l by rw [goodB_comm]; unfold stdB; rw [all_whole hok.out (by rw [HL.out]; exact Nat.le_refl _)]; rfl)
    go_wp2_with fail
    refine (l2Good_any u lo A k c l _ hn (rdx H.out hb0.out)).mono ?_
    rw [← hall.out]
    rintro e w1 ⟨rfl, hb1⟩
    go_wp2
    go_ret
    exact ⟨rfl, ext_trans hb0.out hb1⟩
theorem l2Power_any (z : Int) (n : Nat) (w : World) (hz : z = n) (hn : n ≤ 8) :
 Calls Try.prog 105 #[.int .i64 z] w fun e w' => e = .returned (.int .i64 (pw n)) ∧ w = w' := by
 subst hz
 go_enter Try.func105, Try.ntmps105
 go_wp2
 go_loop [3, 4] (fun p i => ∃ k : Nat, k ≤ n ∧ i = .int .i64 (k : Int) ∧ p = .int .i64 (pw k)) (fun _ i => n - (intOf i).toNat)
 case atStart => exact ⟨0, Nat.zero_le _, rfl, rfl⟩
 case round =>
  obtain ⟨k, hk, rfl, rfl⟩ := hrel
  have hp0 := pw_pos k
  have hp1 := pw_lt (n := k) (by omega)
  have hs := Lib.hid (pw_succ k)
  by_cases hlt : k < n
  · generalize pw k = P at *
    go_wp2
    go_round
    case rel => exact ⟨k + 1, by omega, by go_num, by rw [hs.out]⟩
    case measure => simp [intOf]; omega
  · obtain rfl : k = n := by omega
    go_wp2
    go_ret
    exact ⟨rfl, rfl⟩
theorem l2Digit_any (d : Int) (w : World) (h0 : 0 ≤ d) (h1 : d ≤ 1000) :
 Calls Try.prog 64 #[.int .i64 d] w fun e w' => e = .returned (rodD d).val ∧ Below w.heap.size w w' := by
 go_enter Try.func64, Try.ntmps64
 go_wp2
 refine bodyPost_ret (v := .agg #[.int .i64 (d / 5), .int .i64 (d % 5)]) (by simp [results, Try.results64, go_sem]) rfl ⟨rfl, (by repeat (first | exact ext_refl _ | assumption | refine ext_alloc ?_ _ | refine ext_drew ?_ | refine ext_drewN ?_ _ | refine ext_set ?_ (by simp <;> omega) _ | refine ext_trans ?_ (by assumption)))⟩
end Go.Proofs.Ytihljhikhplegaa
namespace Go.Proofs.Ytihljhikhplegaa
open Go.RowKit
set_option linter.unusedVariables false
set_option linter.unusedSimpArgs false
/-- the digits of m for n rods, from the left -/
def digs (n : Nat) (m : Int) : List Int := (List.range n).map (dg n m)
theorem digs_len (n : Nat) (m : Int) : (digs n m).length = n := by simp [digs]
theorem digs_get {n k : Nat} (m : Int) (h : k < n) : (digs n m)[k]? = some (dg n m k) := by simp [digs, h]
/-- the last j of them, zeros before -/
def digsTo (n : Nat) (m : Int) (j : Nat) : List Int := (List.range n).map fun i => if n - j ≤ i then dg n m i else 0
theorem digsTo_zero (n : Nat) (m : Int) : digsTo n m 0 = List.replicate n 0 := by
 apply List.ext_getElem?
 intro i
 unfold digsTo
 by_cases h : i < n
 · have : ¬ n ≤ i := by omega
   simp [List.getElem?_replicate, h]; omega
 · simp [List.getElem?_replicate, h]
theorem digsTo_all (n : Nat) (m : Int) : digsTo n m n = digs n m := by
 unfold digsTo digs
 exact List.map_congr_left fun i _ => by simp
theorem digsTo_set {n j : Nat} (m : Int) (h : j < n) : (digsTo n m j).set (n - 1 - j) (dg n m (n - 1 - j)) = digsTo n m (j + 1) := by
 apply List.ext_getElem?
 intro i
 unfold digsTo
 rw [List.getElem?_set]
 by_cases e : n - 1 - j = i
 · subst e
   have h1 : n - (j + 1) ≤ n - 1 - j := by omega
   have h2 : n - 1 - j < n := by omega
   simp [h2, h1]
   intro h5
   omega
 · rw [if_neg e]
   by_cases hi : i < n
   · simp only [List.getElem?_map, List.getElem?_range hi, Option.map_some]
     congr 1
     by_cases h3 : n - j ≤ i
     · rw [if_pos h3, if_pos (by omega)]
     · rw [if_neg h3, if_neg (by omega)]
   · simp [hi]
theorem digsTo_len (n : Nat) (m : Int) (j : Nat) : (digsTo n m j).length = n := by simp [digsTo]
theorem intsV_set (zs : List Int) (k : Nat) (z : Int) : intsV (zs.set k z) = (intsV zs).set k (.int .i64 z) := by simp [intsV, List.map_set]
theorem intsV_len (zs : List Int) : (intsV zs).length = zs.length := by simp [intsV]
theorem dg_last {n j : Nat} (m : Int) (h : j < n) : dg n m (n - 1 - j) = m / pw j % 10 := by
 unfold dg
 rw [show n - (n - 1 - j + 1) = j by omega]
theorem div_pw {m : Int} (j : Nat) : m / pw (j + 1) = m / pw j / 10 := by
 have hp := pw_pos j
 rw [pw_succ, Int.mul_comm, ← Int.ediv_ediv_of_nonneg (by omega)]
theorem made_ints (n : Nat) : (madeCells (Value.int .i64 0).cells (n * 1)).toList = intsV (List.replicate n 0) := by
 rw [Nat.mul_one, show (Value.int .i64 0).cells = #[.int .i64 0] from rfl, toList_madeCells_one]
 simp [intsV]
theorem power_at (z : Int) (n : Nat) (w : World) (hz : z = n) (hn : n ≤ 8) : Calls Try.prog 76 #[.int .i64 z] w fun e w' => e = .returned (.int .i64 (pw n)) ∧ w = w' := by
 subst hz
 exact power_any n w hn
theorem info_int : (Try.prog.info? 3).map (fun i => (i.zero, i.size, i.bytes)) = some (some (.int .i64 0), 1, 8) := by kernel_rfl
theorem placeValue_any (u lo : Int) (A : Option Addr) (n c r : Nat) (d : Int) (w : World) (hn : n ≤ 8) (hr : r < n) (d0 : 0 ≤ d) (d9 : d ≤ 9) :
 Calls Try.prog 93 #[frV u lo A n c, .int .i64 (r : Int), .int .i64 d] w fun e w' => e = .returned (.int .i64 (d * pw (n - (r + 1)))) ∧ Below w.heap.size w w' := by
 have hp0 := pw_pos (n - (r + 1))
 have hp1 := pw_lt (n := n - (r + 1)) (by omega)
 have q0 : 0 ≤ d * pw (n - (r + 1)) := Int.mul_nonneg d0 (by omega)
 have q1 : d * pw (n - (r + 1)) ≤ 9 * 100000000 := Int.mul_le_mul d9 hp1 (by omega) (by omega)
 go_enter Try.func93, Try.ntmps93
 go_wp2_with (go_at_call 76; refine (power_at _ (n - (r + 1)) _ (by omega) (by omega)).mono ?_; rintro e w' ⟨rfl, rfl⟩)
 go_ret
 exact ⟨rfl, ext_alloc (ext_refl _) _⟩
/-- what can be taken -/
def canTB (l : List R2) (m : Int) : Bool := inB m 0 (numR l)
theorem canAdd_nonneg {l : List R2} {m : Int} (h : canB l m = true) : 0 ≤ m := by
 simp only [canB, Bool.and_eq_true, inB_iff] at h; exact h.1.1
theorem canAdd_bound {u lo : Int} {l : List R2} {m : Int} (hf : frB u lo l = true) (h : canB l m = true) : m < 200000000 := by
 simp only [canB, Bool.and_eq_true, inB_iff] at h
 have := pw_lt (frB_head hf).2.2.2
 omega
theorem canAdd_fit {l : List R2} {m : Int} (h : canB l m = true) : numD (dsOf l) + m < pw (dsOf l).length := by
 simp only [canB, Bool.and_eq_true, inB_iff] at h
 rw [dsOf_len]
 have : numR l = numD (dsOf l) := rfl
 omega
theorem canTake_nonneg {l : List R2} {m : Int} (h : canTB l m = true) : 0 ≤ m := by
 simp only [canTB, inB_iff] at h; exact h.1
theorem canTake_bound {u lo : Int} {l : List R2} {m : Int} (hf : frB u lo l = true) (h : canTB l m = true) : m < 200000000 := by
 simp only [canTB, inB_iff] at h
 have := numR_bounds hf l.length
 rw [numR_all l _ (Nat.le_refl _)] at this
 omega
theorem canTake_fit {l : List R2} {m : Int} (h : canTB l m = true) : m ≤ numD (dsOf l) := by
 simp only [canTB, inB_iff] at h; exact h.2
theorem addS_ask : ∀ (r : Nat) (d : Int) (s : WS), s.ask ≤ (addS r d s).ask ∧ (addS r d s).ask ≤ s.ask + r := by
 intro r
 induction r with
 | zero => intro d s; simp [addS]
 | succ r ih =>
   intro d s
   by_cases h : 0 < d
   · rw [addS_pos s h]
     have := ih ((s.ds.getD r 0 + d) / 10) ⟨s.ds.set r ((s.ds.getD r 0 + d) % 10), s.ms ++ turnM r (s.ds.getD r 0) ((s.ds.getD r 0 + d) % 10), s.ask + if 0 < (s.ds.getD r 0 + d) / 10 then 1 else 0⟩
     dsimp only at this
     split at this <;> split <;> omega
   · rw [addS_none s h]; omega
theorem takeS_ask : ∀ (r : Nat) (d : Int) (s : WS), s.ask ≤ (takeS r d s).ask ∧ (takeS r d s).ask ≤ s.ask + r := by
 intro r
 induction r with
 | zero => intro d s; simp [takeS]
 | succ r ih =>
   intro d s
   by_cases h : 0 < d
   · by_cases hx : d ≤ s.ds.getD r 0
     · rw [takeS_in s h hx]; dsimp only; omega
     · rw [takeS_left s h hx]
       have := ih 1 ⟨s.ds.set r (s.ds.getD r 0 - d + 10), s.ms ++ turnM r (s.ds.getD r 0) (s.ds.getD r 0 - d + 10), s.ask + 1⟩
       dsimp only at this
       omega
   · rw [takeS_none s h]; omega
theorem addN_ask (n : Nat) (m : Int) (s : WS) (k : Nat) (hk : k ≤ 8) : s.ask ≤ (addN n m s k).ask ∧ (addN n m s k).ask ≤ s.ask + 8 * k := by
 induction k with
 | zero => simp [addN]
 | succ k ih => rw [addN]; have := ih (by omega); have := addS_ask (k + 1) (dg n m k) (addN n m s k); omega
theorem takeN_ask (n : Nat) (m : Int) (s : WS) (k : Nat) (hk : k ≤ 8) : s.ask ≤ (takeN n m s k).ask ∧ (takeN n m s k).ask ≤ s.ask + 8 * k := by
 induction k with
 | zero => simp [takeN]
 | succ k ih => rw [takeN]; have := ih (by omega); have := takeS_ask (k + 1) (dg n m k) (takeN n m s k); omega
/-- a digit that can be added, taken -/
def addDigitB (u lo : Int) (l : List R2) (rod d : Int) : Bool := goodB u lo l && inB rod 0 ((l.length : Int) - 1) && inB d 0 9 && canB l (d * pw (l.length - (rod.toNat + 1)))
def takeDigitB (u lo : Int) (l : List R2) (rod d : Int) : Bool := goodB u lo l && inB rod 0 ((l.length : Int) - 1) && inB d 0 9 && canTB l (d * pw (l.length - (rod.toNat + 1)))
theorem hasRod_b (u lo : Int) (A : Option Addr) (n c : Nat) (m : Int) (b : Bool) (w : World) (hn : n ≤ 1048576) (hb : inB m 0 ((n : Int) - 1) = b) :
 Calls Try.prog 90 #[frV u lo A n c, .int .i64 m] w fun e w' => e = .returned (.bool b) ∧ Below w.heap.size w w' := by
 subst hb
 exact hasRod_any u lo A n c m w hn
theorem within_b (n lo hi : Int) (b : Bool) (w : World) (hb : inB n lo hi = b) :
 Calls Try.prog 52 #[.int .i64 n, .int .i64 lo, .int .i64 hi] w fun e w' => e = .returned (.bool b) ∧ Below w.heap.size w w' := by
 subst hb
 exact (inB_within n lo hi w).mono fun e w' ⟨h, hw⟩ => ⟨h, by rw [← hw]; exact ext_refl _⟩
theorem canAdd_b (u lo : Int) (A : Option Addr) (n c : Nat) (l : List R2) (m : Int) (b : Bool) (w : World) (hf : frB u lo l = true) (h : Reads w w.heap.size 2 A n (rowsV2 l)) (hb : canB l m = b) :
 Calls Try.prog 92 #[frV u lo A n c, .int .i64 m] w fun e w' => e = .returned (.bool b) ∧ Below w.heap.size w w' := by
 subst hb
 exact canAdd_any u lo A n c l m w hf h
theorem canTake_b (u lo : Int) (A : Option Addr) (n c : Nat) (l : List R2) (m : Int) (b : Bool) (w : World) (hf : frB u lo l = true) (h : Reads w w.heap.size 2 A n (rowsV2 l)) (hb : canTB l m = b) :
 Calls Try.prog 95 #[frV u lo A n c, .int .i64 m] w fun e w' => e = .returned (.bool b) ∧ Below w.heap.size w w' := by
 subst hb
 exact canTake_any u lo A n c l m w hf h
end Go.Proofs.Ytihljhikhplegaa
namespace Go.Proofs.Ytihljhikhplegaa
open Go.RowKit
set_option linter.unusedVariables false
set_option linter.unusedSimpArgs false
/-- a word of a script -/
structure RW where
 times : Nat
 what : UInt8
 digit : Nat
def digB (c : UInt8) : Bool := decide (49 ≤ c.toNat ∧ c.toNat ≤ 57)
/-- a word that is not repeated -/
def plainO (l : List UInt8) : Option (UInt8 × Nat) :=
 match l with
 | [c] => if c = 60 ∨ c = 62 ∨ c = 99 then some (c, 0) else none
 | [c, d] => if (c = 43 ∨ c = 45) ∧ digB d = true then some (c, d.toNat - 48) else none
 | _ => none
def repB (c : UInt8) : Bool := decide (50 ≤ c.toNat ∧ c.toNat ≤ 57)
def wordO (l : List UInt8) : Option RW :=
 match l with
 | [] => none
 | c :: rest => if repB c = true ∧ rest ≠ [] then (plainO rest).map fun p => ⟨c.toNat - 48, p.1, p.2⟩ else (plainO l).map fun p => ⟨1, p.1, p.2⟩
def wd (l : List UInt8) : RW := (wordO l).getD ⟨1, 99, 0⟩
/-- the words of a script -/
def wordsL (s : ByteArray) : List (List UInt8) := if s.size = 0 then [] else splitL 32 (bl s)
def scrB (s : ByteArray) : Bool := decide (s.size ≤ 80) && (wordsL s).all fun l => (wordO l).isSome
def rulesL (s : ByteArray) : List RW := (wordsL s).map wd
theorem rulesL_len (s : ByteArray) : (rulesL s).length = (wordsL s).length := by simp [rulesL]
theorem wordsL_len (s : ByteArray) : (wordsL s).length ≤ 1 + s.size := by
 unfold wordsL
 split
 · simp
 · rw [splitL_len]
   have := List.count_le_length (a := (32 : UInt8)) (l := bl s)
   rw [bl_size] at this
   omega
/-- what a word that is one tells -/
def okW (w : RW) : Prop := (1 ≤ w.times ∧ w.times ≤ 9) ∧ ((w.what = 60 ∨ w.what = 62 ∨ w.what = 99) ∧ w.digit = 0 ∨ (w.what = 43 ∨ w.what = 45) ∧ 1 ≤ w.digit ∧ w.digit ≤ 9)
theorem plainO_ok {l : List UInt8} {c : UInt8} {d : Nat} (h : plainO l = some (c, d)) : (c = 60 ∨ c = 62 ∨ c = 99) ∧ d = 0 ∨ (c = 43 ∨ c = 45) ∧ 1 ≤ d ∧ d ≤ 9 := by
 unfold plainO at h
 split at h
 · split at h
   · rename_i hc
     injection h with h
     injection h with h1 h2
     subst h1 h2
     exact .inl ⟨hc, rfl⟩
   · cases h
 · split at h
   · rename_i hc
     injection h with h
     injection h with h1 h2
     subst h1 h2
     have hd := hc.2
     simp only [digB, decide_eq_true_eq] at hd
     exact .inr ⟨hc.1, by omega, by omega⟩
   · cases h
 · cases h
theorem wordO_ok {l : List UInt8} {w : RW} (h : wordO l = some w) : okW w := by
 unfold wordO at h
 split at h
 · cases h
 · rename_i c rest
   split at h
   · rename_i hc
     rcases hp : plainO rest with _ | ⟨a, b⟩
     · rw [hp] at h; cases h
     · rw [hp] at h
       injection h with h
       subst h
       have hr := hc.1
       simp only [repB, decide_eq_true_eq] at hr
       exact ⟨⟨by dsimp only; omega, by dsimp only; omega⟩, plainO_ok hp⟩
   · rcases hp : plainO (c :: rest) with _ | ⟨a, b⟩
     · rw [hp] at h; cases h
     · rw [hp] at h
       injection h with h
       subst h
       exact ⟨⟨by dsimp only; omega, by dsimp only; omega⟩, plainO_ok hp⟩
/-- a word carried out once -/
def stO (n : Nat) (w : RW) (p : WS × Nat) : Option (WS × Nat) :=
 if w.what = 60 then (if 0 < p.2 then some (p.1, p.2 - 1) else none)
 else if w.what = 62 then (if p.2 + 1 < n then some (p.1, p.2 + 1) else none)
 else if w.what = 99 then some (⟨p.1.ds.set p.2 0, p.1.ms ++ turnM p.2 (p.1.ds.getD p.2 0) 0, p.1.ask⟩, p.2)
 else if w.what = 43 then (if canB (rodsD p.1.ds) ((w.digit : Int) * pw (n - (p.2 + 1))) = true then some (addS (p.2 + 1) w.digit p.1, p.2) else none)
 else (if canTB (rodsD p.1.ds) ((w.digit : Int) * pw (n - (p.2 + 1))) = true then some (takeS (p.2 + 1) w.digit p.1, p.2) else none)
/-- k times -/
def itO (n : Nat) (w : RW) : Nat → WS × Nat → Option (WS × Nat)
 | 0, p => some p
 | k + 1, p => (itO n w k p).bind (stO n w)
def wdO (n : Nat) (w : RW) (p : WS × Nat) : Option (WS × Nat) := itO n w w.times p
/-- words carried out -/
def runO (n : Nat) (ws : List RW) (p : WS × Nat) : Option (WS × Nat) := ws.foldl (fun o w => o.bind (wdO n w)) (some p)
/-- how many words can be carried out -/
def doneN (n : Nat) : List RW → WS × Nat → Nat
 | [], _ => 0
 | w :: ws, p => match wdO n w p with
   | none => 0
   | some q => 1 + doneN n ws q
theorem runO_none (n : Nat) (ws : List RW) : ws.foldl (fun (o : Option (WS × Nat)) w => o.bind (wdO n w)) none = none := by
 induction ws with
 | nil => rfl
 | cons w ws ih => exact ih
theorem runO_cons (n : Nat) (w : RW) (ws : List RW) (p : WS × Nat) : runO n (w :: ws) p = (wdO n w p).bind (runO n ws) := by
 unfold runO
 rw [List.foldl_cons]
 simp only [Option.bind_some]
 rcases wdO n w p with _ | q
 · exact runO_none n ws
 · rfl
theorem runO_take {n : Nat} {ws : List RW} {k : Nat} {p q : WS × Nat} {w : RW} (h : runO n (ws.take k) p = some q) (hw : ws[k]? = some w) : runO n (ws.take (k + 1)) p = wdO n w q := by
 unfold runO at h ⊢
 rw [List.take_add_one, hw]
 simp [List.foldl_append, h]
theorem doneN_split (n : Nat) : ∀ (ws : List RW) (k : Nat) (p q : WS × Nat), k ≤ ws.length → runO n (ws.take k) p = some q → doneN n ws p = k + doneN n (ws.drop k) q := by
 intro ws
 induction ws with
 | nil => intro k p q hk h; simp at hk; subst hk; simp [runO] at h; subst h; simp
 | cons w ws ih =>
   intro k p q hk h
   rcases k with _ | k
   · simp [runO] at h; subst h; simp
   · rw [List.take_succ_cons, runO_cons] at h
     rcases hw : wdO n w p with _ | p'
     · rw [hw] at h; cases h
     · rw [hw] at h
       have := ih k p' q (by simpa using hk) h
       rw [doneN, hw]
       simp only [List.drop_succ_cons]
       omega
theorem done_at {n k : Nat} {ws : List RW} {p q : WS × Nat} {w : RW} (h : runO n (ws.take k) p = some q) (hw : ws[k]? = some w) (hn : wdO n w q = none) : doneN n ws p = k ∧ runO n ws p = none := by
 have hk := (List.getElem?_eq_some_iff.1 hw).1
 refine ⟨?_, ?_⟩
 · rw [doneN_split n ws k p q (by omega) h, List.drop_eq_getElem_cons hk, doneN]
   rw [List.getElem?_eq_getElem hk] at hw
   injection hw with hw
   rw [hw, hn]
   rfl
 · unfold runO at h ⊢
   conv => lhs; rw [← List.take_append_drop k ws]
   rw [List.foldl_append, h, List.drop_eq_getElem_cons hk, List.foldl_cons]
   rw [List.getElem?_eq_getElem hk] at hw
   injection hw with hw
   rw [hw]
   simp only [Option.bind_some]
   rw [hn]
   exact runO_none n _
theorem done_all {n : Nat} {ws : List RW} {p q : WS × Nat} (h : runO n ws p = some q) : doneN n ws p = ws.length := by
 have := doneN_split n ws ws.length p q (Nat.le_refl _) (by rw [List.take_of_length_le (Nat.le_refl _)]; exact h)
 rw [this]
 simp [doneN]
theorem doneN_le (n : Nat) : ∀ (ws : List RW) (p : WS × Nat), doneN n ws p ≤ ws.length := by
 intro ws
 induction ws with
 | nil => intro p; exact Nat.le_refl _
 | cons w ws ih =>
   intro p
   rw [doneN]
   rcases wdO n w p with _ | q
   · simp
   · have := ih q; simp only [List.length_cons]; omega
theorem done_less {n : Nat} {ws : List RW} {p : WS × Nat} (h : runO n ws p = none) : doneN n ws p < ws.length := by
 revert p
 induction ws with
 | nil => intro p h; simp [runO] at h
 | cons w ws ih =>
   intro p h
   rw [runO_cons] at h
   rw [doneN]
   rcases hw : wdO n w p with _ | q
   · simp
   · rw [hw] at h
     have := ih (p := q) h
     simp only [List.length_cons]
     omega
/-- what stays true of a worker on a frame of n rods -/
def Inv (n : Nat) (p : WS × Nat) : Prop := WF p.1.ds ∧ p.1.ds.length = n ∧ p.2 < n
theorem canB_fit {n r d : Nat} {ds : List Int} (hw : WF ds) (hn : ds.length = n) (hr : r < n) (d9 : d ≤ 9) (h : canB (rodsD ds) ((d : Int) * pw (n - (r + 1))) = true) : AddFit (r + 1) d ds := by
 have := canAdd_fit h
 rw [dsOf_rodsD] at this
 refine ⟨by omega, by omega, by omega, hw, ?_⟩
 rw [hn] at this ⊢
 exact this
theorem canTB_fit {n r d : Nat} {ds : List Int} (hw : WF ds) (hn : ds.length = n) (hr : r < n) (d9 : d ≤ 9) (h : canTB (rodsD ds) ((d : Int) * pw (n - (r + 1))) = true) : TakeFit (r + 1) d ds := by
 have := canTake_fit h
 rw [dsOf_rodsD] at this
 refine ⟨by omega, by omega, by omega, hw, ?_⟩
 rw [hn]
 exact this
theorem okW_d {w : RW} (h : okW w) : w.digit ≤ 9 := by rcases h.2 with ⟨_, h⟩ | ⟨_, _, h⟩ <;> omega
theorem stO_inv {n : Nat} {w : RW} {p q : WS × Nat} (hw : okW w) (hi : Inv n p) (h : stO n w p = some q) : Inv n q ∧ q.1.ms.length ≤ p.1.ms.length + 16 * n ∧ (0 ≤ p.1.ask → 0 ≤ q.1.ask) ∧ q.1.ask ≤ p.1.ask + n := by
 obtain ⟨h1, h2, h3⟩ := hi
 have hd := okW_d hw
 unfold stO at h
 split at h
 · split at h
   · injection h with h
     subst h
     exact ⟨⟨h1, h2, by dsimp only; omega⟩, by dsimp only; omega, fun h => h, by dsimp only; omega⟩
   · cases h
 split at h
 · split at h
   · injection h with h
     subst h
     exact ⟨⟨h1, h2, by dsimp only; omega⟩, by dsimp only; omega, fun h => h, by dsimp only; omega⟩
   · cases h
 split at h
 · injection h with h
   subst h
   refine ⟨⟨h1.set _ (by omega) (by omega), by dsimp only; rw [List.length_set]; exact h2, h3⟩, ?_, fun h => h, by dsimp only; omega⟩
   have := turnM_len p.2 (p.1.ds.getD p.2 0) 0
   simp only [List.length_append]
   omega
 split at h
 · split at h
   · rename_i hc
     injection h with h
     subst h
     have hf := canB_fit h1 h2 h3 hd hc
     have hm := addS_msl (p.2 + 1) w.digit p.1
     have ha := addS_ask (p.2 + 1) w.digit p.1
     exact ⟨⟨addS_WF _ _ _ (by omega) h1, by rw [addS_len]; exact h2, h3⟩, by dsimp only; omega, fun _ => by dsimp only; omega, by dsimp only; omega⟩
   · cases h
 · split at h
   · rename_i hc
     injection h with h
     subst h
     have hm := takeS_msl (p.2 + 1) w.digit p.1
     have ha := takeS_ask (p.2 + 1) w.digit p.1
     exact ⟨⟨takeS_WF _ _ _ (by omega) (by omega) h1, by rw [takeS_len]; exact h2, h3⟩, by dsimp only; omega, fun _ => by dsimp only; omega, by dsimp only; omega⟩
   · cases h
/-- bounds of a worker after so many steps -/
def Bd (n m : Nat) (p : WS × Nat) : Prop := Inv n p ∧ p.1.ms.length ≤ 16 * n * m ∧ 0 ≤ p.1.ask ∧ p.1.ask ≤ n * m
theorem Bd.step {n m : Nat} {w : RW} {p q : WS × Nat} (hw : okW w) (hb : Bd n m p) (h : stO n w p = some q) : Bd n (m + 1) q := by
 obtain ⟨h1, h2, h3, h4⟩ := hb
 obtain ⟨k1, k2, k3, k4⟩ := stO_inv hw h1 h
 have e1 : 16 * n * (m + 1) = 16 * n * m + 16 * n := by rw [Nat.mul_add, Nat.mul_one]
 have e2 : ((n * (m + 1) : Nat) : Int) = (n * m : Nat) + n := by rw [Nat.mul_add, Nat.mul_one]; omega
 refine ⟨k1, by omega, k3 h3, ?_⟩
 have h4' : p.1.ask ≤ ((n * m : Nat) : Int) := by push_cast; exact h4
 have : q.1.ask ≤ ((n * (m + 1) : Nat) : Int) := by omega
 push_cast at this
 exact this
theorem itO_some {n : Nat} {w : RW} {k j : Nat} {p : WS × Nat} (hj : j ≤ k) (h : (itO n w k p).isSome = true) : (itO n w j p).isSome = true := by
 induction k with
 | zero => cases (Nat.le_zero.1 hj); exact h
 | succ k ih =>
   rcases Nat.lt_or_ge j (k + 1) with hlt | hge
   · refine ih (by omega) ?_
     rw [itO] at h
     rcases hq : itO n w k p with _ | q
     · rw [hq] at h; cases h
     · rfl
   · obtain rfl : j = k + 1 := by omega
     exact h
theorem itO_none {n : Nat} {w : RW} {k j : Nat} {p : WS × Nat} (hj : j ≤ k) (h : itO n w j p = none) : itO n w k p = none := by
 rcases hq : itO n w k p with _ | q
 · rfl
 · have := itO_some hj (by rw [hq]; rfl)
   rw [h] at this
   cases this
end Go.Proofs.Ytihljhikhplegaa
namespace Go.Proofs.Ytihljhikhplegaa
open Go.RowKit
set_option linter.unusedVariables false
set_option linter.unusedSimpArgs false
end Go.Proofs.Ytihljhikhplegaa
namespace Go.Proofs.Ytihljhikhplegaa
open Go.RowKit
set_option linter.unusedVariables false
set_option linter.unusedSimpArgs false
/-- moves come back beside a bool -/
abbrev RetMv (w : World) (l : List R3) (ok : Bool) : Ending → World → Prop := RetSliceB w 75 3 l.length (rowsV3 l) ok
def addDms (u lo : Int) (l : List R2) (rod d : Int) : List R3 := if addDigitB u lo l rod d = true then (addS (rod.toNat + 1) d ⟨dsOf l, [], 0⟩).ms else []
def takeDms (u lo : Int) (l : List R2) (rod d : Int) : List R3 := if takeDigitB u lo l rod d = true then (takeS (rod.toNat + 1) d ⟨dsOf l, [], 0⟩).ms else []
def addNst (l : List R2) (m : Int) : WS := addN l.length m ⟨dsOf l, [], 0⟩ l.length
def takeNst (l : List R2) (m : Int) : WS := takeN l.length m ⟨dsOf l, [], 0⟩ l.length
def addNok (u lo : Int) (l : List R2) (m : Int) : Bool := goodB u lo l && canB l m
def takeNok (u lo : Int) (l : List R2) (m : Int) : Bool := goodB u lo l && canTB l m
def addNmok (u lo : Int) (l : List R2) (m : Int) : Bool := addNok u lo l m && decide ((addNst l m).ms.length ≤ 60)
def takeNmok (u lo : Int) (l : List R2) (m : Int) : Bool := takeNok u lo l m && decide ((takeNst l m).ms.length ≤ 60)
def addNms (u lo : Int) (l : List R2) (m : Int) : List R3 := if addNmok u lo l m = true then (addNst l m).ms else []
def takeNms (u lo : Int) (l : List R2) (m : Int) : List R3 := if takeNmok u lo l m = true then (takeNst l m).ms else []
end Go.Proofs.Ytihljhikhplegaa
namespace Go.Proofs.Ytihljhikhplegaa
open Go.RowKit
set_option linter.unusedVariables false
set_option linter.unusedSimpArgs false
theorem l2Standard_b (u lo : Int) (A : Option Addr) (n c : Nat) (l : List R2) (w : World) (b : Bool) (hn : n ≤ 1048576) (h : Reads w w.heap.size 2 A n (rowsV2 l)) (hb : goodB u lo l = b) :
 Calls Try.prog 67 #[frV u lo A n c] w (RetV (.bool b) w) := by subst hb; exact l2Standard_any u lo A n c l w hn h
theorem good_fr {u lo : Int} {l : List R2} (h : goodB u lo l = true) : frB u lo l = true := by simp only [goodB, Bool.and_eq_true] at h; exact h.1
theorem good_std {u lo : Int} {l : List R2} (h : goodB u lo l = true) : stdB l = true := by simp only [goodB, Bool.and_eq_true] at h; exact h.2
/-- what the reference asks of a number to be added is what the program asks -/
theorem canB_ref {u lo : Int} {l : List R2} {m : Int} (hf : frB u lo l = true) (m0 : 0 ≤ m) : canB l m = decide (numR l + m < pw l.length) := by
 have hb := numR_bounds hf l.length
 rw [numR_all l _ (Nat.le_refl _)] at hb
 rw [Bool.eq_iff_iff]
 simp only [canB, Bool.and_eq_true, inB_iff, decide_eq_true_eq]
 omega
theorem canTB_ref {l : List R2} {m : Int} (m0 : 0 ≤ m) : canTB l m = decide (m ≤ numR l) := by
 rw [Bool.eq_iff_iff]
 simp only [canTB, inB_iff, decide_eq_true_eq]
 omega
set_option maxRecDepth 100000 in
theorem l6CanDigit_any (u lo : Int) (A : Option Addr) (n c : Nat) (l : List R2) (rod d : Int) (w : World) (hn : n ≤ 1048576) (h : Reads w w.heap.size 2 A n (rowsV2 l)) :
 Calls Try.prog 98 #[frV u lo A n c, .int .i64 rod, .int .i64 d] w (RetV (.bool (addDigitB u lo l rod d)) w) := by
 have hl := rows_len2 h
 have H := Lib.hid h
 clear h
 cases hgd : goodB u lo l
 · rw [show addDigitB u lo l rod d = false by simp [addDigitB, hgd]]
   have hgd := Lib.hid hgd
   have hl := Lib.hid hl
   go_enter Try.func98, Try.ntmps98
   go_wp2_with fail
   refine (l2Standard_b u lo A n c l _ _ hn (rdx H.out (ext_alloc (ext_refl w) _)) hgd.out).mono ?_
   rintro e w1 ⟨rfl, hb1⟩
   go_wp2
   go_ret
   exact ⟨rfl, ext_trans (ext_alloc (ext_refl w) _) hb1⟩
 have hf := good_fr hgd
 have hn8 := (frB_head hf).2.2.2
 rw [hl] at hn8
 cases hr : inB rod 0 ((n : Int) - 1)
 · rw [show addDigitB u lo l rod d = false by simp [addDigitB, hl, hr]]
   have hgd := Lib.hid hgd
   have hf := Lib.hid hf
   have hl := Lib.hid hl
   go_enter Try.func98, Try.ntmps98
   go_wp2_with fail
   refine (l2Standard_b u lo A n c l _ _ hn (rdx H.out (ext_alloc (ext_refl w) _)) hgd.out).mono ?_
   rintro e w1 ⟨rfl, hb1⟩
   obtain ⟨BF, hb2, hs2⟩ := box_frame (by simpa using hb1)
   have hb2 := Lib.hid hb2
   obtain ⟨d0, d1, d2⟩ := BF.q3
   clear BF hb1
   go_wp2_with fail
   refine (l1In_b _ _ _ _ _ hr).mono ?_
   rintro e w2 ⟨rfl, hb3⟩
   go_wp2
   go_ret
   exact ⟨rfl, ext_trans hb2.out hb3⟩
 cases hd : inB d 0 9
 · rw [show addDigitB u lo l rod d = false by simp [addDigitB, hd]]
   have hgd := Lib.hid hgd
   have hf := Lib.hid hf
   have hl := Lib.hid hl
   go_enter Try.func98, Try.ntmps98
   go_wp2_with fail
   refine (l2Standard_b u lo A n c l _ _ hn (rdx H.out (ext_alloc (ext_refl w) _)) hgd.out).mono ?_
   rintro e w1 ⟨rfl, hb1⟩
   obtain ⟨BF, hb2, hs2⟩ := box_frame (by simpa using hb1)
   have hb2 := Lib.hid hb2
   obtain ⟨d0, d1, d2⟩ := BF.q3
   clear BF hb1
   go_wp2_with fail
   refine (l1In_b _ _ _ _ _ hr).mono ?_
   rintro e w2 ⟨rfl, hb3⟩
   have hb4 := Lib.hid (ext_trans hb2.out hb3)
   clear hb3
   go_wp2_with fail
   refine (l1In_b _ _ _ _ _ hd).mono ?_
   rintro e w3 ⟨rfl, hb5⟩
   go_wp2
   go_ret
   exact ⟨rfl, ext_trans hb4.out hb5⟩
 obtain ⟨r0, r1⟩ := inB_iff.1 hr
 obtain ⟨d0, d9⟩ := inB_iff.1 hd
 obtain ⟨r, rfl⟩ := Int.eq_ofNat_of_zero_le r0
 have hrn : r < n := by omega
 have hnb := numR_bounds hf l.length
 rw [numR_all l _ (Nat.le_refl _)] at hnb
 obtain ⟨n0, n1⟩ := hnb
 have hp0 := pw_pos n
 have hp1 := pw_lt hn8
 have hpr0 := pw_pos (n - (r + 1))
 have hpr1 := pw_lt (n := n - (r + 1)) (by omega)
 have q0 : 0 ≤ d * pw (n - (r + 1)) := Int.mul_nonneg d0 (by omega)
 have q1 : d * pw (n - (r + 1)) ≤ 9 * 100000000 := Int.mul_le_mul d9 hpr1 (by omega) (by omega)
 have E := Lib.hid (show addDigitB u lo l (r : Int) d = decide (numR l + d * pw (n - (r + 1)) < pw n) by
  rw [addDigitB, hgd, hl, hr, hd, show (r : Int).toNat = r from rfl, canB_ref hf q0]
  try rw [hl]
  rfl)
 have HZ := Lib.hid (show (n : Int) - 1 - r = ((n - (r + 1) : Nat) : Int) by omega)
 have hn7 : n - (r + 1) ≤ 8 := by omega
 have hgd := Lib.hid hgd
 have hf := Lib.hid hf
 have hl := Lib.hid hl
 rw [E.out]
 go_enter Try.func98, Try.ntmps98
 go_wp2_with fail
 refine (l2Standard_b u lo A n c l _ _ hn (rdx H.out (ext_alloc (ext_refl w) _)) hgd.out).mono ?_
 rintro e w1 ⟨rfl, hb1⟩
 obtain ⟨BF, hb2, hs2⟩ := box_frame (by simpa using hb1)
 have hb2 := Lib.hid hb2
 obtain ⟨c0, c1, c2⟩ := BF.q3
 clear hb1
 go_wp2_with fail
 refine (l1In_b _ _ _ _ _ hr).mono ?_
 rintro e w2 ⟨rfl, hb3⟩
 have hb4 := Lib.hid (ext_trans hb2.out hb3)
 have BF := BF.ext hb3
 have hs3 := hb3.size
 clear hb3 c0 c1 c2
 go_wp2_with fail
 refine (l1In_b _ _ _ _ _ hd).mono ?_
 rintro e w3 ⟨rfl, hb5⟩
 have hb6 := Lib.hid (ext_trans hb4.out hb5)
 obtain ⟨c0, c1, c2⟩ := (BF.ext hb5).q3
 have hs5 := hb5.size
 have hs6 : w.heap.size < w3.heap.size := by omega
 clear hb5 BF
 go_wp2
 (refine wp_region_later (by kernel_rfl) (by kernel_rfl) ?_; (repeat (go_big_quiet_step (first | (go_at_call 105; with_reducible exact Calls.later_same (l2Power_any ((n : Int) - 1 - r) (n - (r + 1)) _ HZ.out hn7)) | (go_at_call 105; with_reducible exact Calls.later_same (l2Power_any n n _ rfl hn8)) | (go_at_call 104; with_reducible exact Calls.later_of (l2Number_any u lo A n c l _ hf.out (rdx (rdx H.out hb6.out) (Later.h _))))))); refine wpQuiet_nil ?_; intro w1 hw1; obtain ⟨⟨wl, hbL⟩, hw1'⟩ := hw1; simp only at hw1'; subst hw1'; obtain ⟨hcL, hfL⟩ := bcell hbL)
 have hb7 := Lib.hid (ext_trans hb6.out hbL)
 clear hbL hcL hfL
 go_wp2
 go_ret
 exact ⟨rfl, hb7.out⟩
set_option maxRecDepth 100000 in
theorem l8CanDigit_any (u lo : Int) (A : Option Addr) (n c : Nat) (l : List R2) (rod d : Int) (w : World) (hn : n ≤ 1048576) (h : Reads w w.heap.size 2 A n (rowsV2 l)) :
 Calls Try.prog 100 #[frV u lo A n c, .int .i64 rod, .int .i64 d] w (RetV (.bool (takeDigitB u lo l rod d)) w) := by
 have hl := rows_len2 h
 have H := Lib.hid h
 clear h
 cases hgd : goodB u lo l
 · rw [show takeDigitB u lo l rod d = false by simp [takeDigitB, hgd]]
   have hgd := Lib.hid hgd
   have hl := Lib.hid hl
   go_enter Try.func100, Try.ntmps100
   go_wp2_with fail
   refine (l2Standard_b u lo A n c l _ _ hn (rdx H.out (ext_alloc (ext_refl w) _)) hgd.out).mono ?_
   rintro e w1 ⟨rfl, hb1⟩
   go_wp2
   go_ret
   exact ⟨rfl, ext_trans (ext_alloc (ext_refl w) _) hb1⟩
 have hf := good_fr hgd
 have hn8 := (frB_head hf).2.2.2
 rw [hl] at hn8
 cases hr : inB rod 0 ((n : Int) - 1)
 · rw [show takeDigitB u lo l rod d = false by simp [takeDigitB, hl, hr]]
   have hgd := Lib.hid hgd
   have hf := Lib.hid hf
   have hl := Lib.hid hl
   go_enter Try.func100, Try.ntmps100
   go_wp2_with fail
   refine (l2Standard_b u lo A n c l _ _ hn (rdx H.out (ext_alloc (ext_refl w) _)) hgd.out).mono ?_
   rintro e w1 ⟨rfl, hb1⟩
   obtain ⟨BF, hb2, hs2⟩ := box_frame (by simpa using hb1)
   have hb2 := Lib.hid hb2
   obtain ⟨d0, d1, d2⟩ := BF.q3
   clear BF hb1
   go_wp2_with fail
   refine (l1In_b _ _ _ _ _ hr).mono ?_
   rintro e w2 ⟨rfl, hb3⟩
   go_wp2
   go_ret
   exact ⟨rfl, ext_trans hb2.out hb3⟩
 cases hd : inB d 0 9
 · rw [show takeDigitB u lo l rod d = false by simp [takeDigitB, hd]]
   have hgd := Lib.hid hgd
   have hf := Lib.hid hf
   have hl := Lib.hid hl
   go_enter Try.func100, Try.ntmps100
   go_wp2_with fail
   refine (l2Standard_b u lo A n c l _ _ hn (rdx H.out (ext_alloc (ext_refl w) _)) hgd.out).mono ?_
   rintro e w1 ⟨rfl, hb1⟩
   obtain ⟨BF, hb2, hs2⟩ := box_frame (by simpa using hb1)
   have hb2 := Lib.hid hb2
   obtain ⟨d0, d1, d2⟩ := BF.q3
   clear BF hb1
   go_wp2_with fail
   refine (l1In_b _ _ _ _ _ hr).mono ?_
   rintro e w2 ⟨rfl, hb3⟩
   have hb4 := Lib.hid (ext_trans hb2.out hb3)
   clear hb3
   go_wp2_with fail
   refine (l1In_b _ _ _ _ _ hd).mono ?_
   rintro e w3 ⟨rfl, hb5⟩
   go_wp2
   go_ret
   exact ⟨rfl, ext_trans hb4.out hb5⟩
 obtain ⟨r0, r1⟩ := inB_iff.1 hr
 obtain ⟨d0, d9⟩ := inB_iff.1 hd
 obtain ⟨r, rfl⟩ := Int.eq_ofNat_of_zero_le r0
 have hrn : r < n := by omega
 have hnb := numR_bounds hf l.length
 rw [numR_all l _ (Nat.le_refl _)] at hnb
 obtain ⟨n0, n1⟩ := hnb
 have hp0 := pw_pos n
 have hp1 := pw_lt hn8
 have hpr0 := pw_pos (n - (r + 1))
 have hpr1 := pw_lt (n := n - (r + 1)) (by omega)
 have q0 : 0 ≤ d * pw (n - (r + 1)) := Int.mul_nonneg d0 (by omega)
 have q1 : d * pw (n - (r + 1)) ≤ 9 * 100000000 := Int.mul_le_mul d9 hpr1 (by omega) (by omega)
 have E := Lib.hid (show takeDigitB u lo l (r : Int) d = decide (d * pw (n - (r + 1)) ≤ numR l) by
  rw [takeDigitB, hgd, hl, hr, hd, show (r : Int).toNat = r from rfl, canTB_ref q0]
  try rw [hl]
  rfl)
 have HZ := Lib.hid (show (n : Int) - 1 - r = ((n - (r + 1) : Nat) : Int) by omega)
 have hn7 : n - (r + 1) ≤ 8 := by omega
 have hgd := Lib.hid hgd
 have hf := Lib.hid hf
 have hl := Lib.hid hl
 rw [E.out]
 go_enter Try.func100, Try.ntmps100
 go_wp2_with fail
 refine (l2Standard_b u lo A n c l _ _ hn (rdx H.out (ext_alloc (ext_refl w) _)) hgd.out).mono ?_
 rintro e w1 ⟨rfl, hb1⟩
 obtain ⟨BF, hb2, hs2⟩ := box_frame (by simpa using hb1)
 have hb2 := Lib.hid hb2
 obtain ⟨c0, c1, c2⟩ := BF.q3
 clear hb1
 go_wp2_with fail
 refine (l1In_b _ _ _ _ _ hr).mono ?_
 rintro e w2 ⟨rfl, hb3⟩
 have hb4 := Lib.hid (ext_trans hb2.out hb3)
 have BF := BF.ext hb3
 have hs3 := hb3.size
 clear hb3 c0 c1 c2
 go_wp2_with fail
 refine (l1In_b _ _ _ _ _ hd).mono ?_
 rintro e w3 ⟨rfl, hb5⟩
 have hb6 := Lib.hid (ext_trans hb4.out hb5)
 obtain ⟨c0, c1, c2⟩ := (BF.ext hb5).q3
 have hs5 := hb5.size
 have hs6 : w.heap.size < w3.heap.size := by omega
 clear hb5 BF
 go_wp2
 (refine wp_region_later (by kernel_rfl) (by kernel_rfl) ?_; (repeat (go_big_quiet_step (first | (go_at_call 105; with_reducible exact Calls.later_same (l2Power_any ((n : Int) - 1 - r) (n - (r + 1)) _ HZ.out hn7)) | (go_at_call 104; with_reducible exact Calls.later_of (l2Number_any u lo A n c l _ hf.out (rdx (rdx H.out hb6.out) (Later.h _))))))); refine wpQuiet_nil ?_; intro w1 hw1; obtain ⟨⟨wl, hbL⟩, hw1'⟩ := hw1; simp only at hw1'; subst hw1'; obtain ⟨hcL, hfL⟩ := bcell hbL)
 have hb7 := Lib.hid (ext_trans hb6.out hbL)
 clear hbL hcL hfL
 go_wp2
 go_ret
 exact ⟨rfl, hb7.out⟩
end Go.Proofs.Ytihljhikhplegaa
namespace Go.Proofs.Ytihljhikhplegaa
open Go.RowKit
set_option linter.unusedVariables false
set_option linter.unusedSimpArgs false
theorem turnM_cases (r : Nat) (x v : Int) : turnM r x v = (if v / 5 - x / 5 = 0 then [] else [⟨(r : Int), 0, v / 5 - x / 5⟩]) ++ (if v % 5 - x % 5 = 0 then [] else [⟨(r : Int), 1, v % 5 - x % 5⟩]) := rfl
set_option maxRecDepth 100000 in
set_option maxHeartbeats 1000000 in
theorem l6Turn_any (r : Nat) (x v : Int) (w : World) (h0 : 0 ≤ x) (h9 : x ≤ 9) (v0 : 0 ≤ v) (v9 : v ≤ 9) :
 Calls Try.prog 84 #[.int .i64 (r : Int), .int .i64 x, .int .i64 v] w (RetSlice w 75 3 (turnM r x v).length (rowsV3 (turnM r x v))) := by
 obtain ⟨i0, hi, hz0, hz1, hz2⟩ := info_parts info_mv
 have ho := own_lit_at w 75 3 (H := w.heap.size) (B := w.heap.size) rfl (Nat.le_refl _)
 have x1 : 0 ≤ x / 5 := by omega
 have x2 : x / 5 ≤ 1 := by omega
 have y1 : 0 ≤ v / 5 := by omega
 have y2 : v / 5 ≤ 1 := by omega
 have x3 : 0 ≤ x % 5 := by omega
 have x4 : x % 5 ≤ 4 := by omega
 have y3 : 0 ≤ v % 5 := by omega
 have y4 : v % 5 ≤ 4 := by omega
 have e5 : v / 5 = v / 5 := rfl
 have m1 : 0 + 1 ≤ maxLen := by unfold maxLen; omega
 have m2 : (0 + 1) * 24 ≤ 140737488355328 := by omega
 have m3 : 0 + 1 + 1 ≤ maxLen := by unfold maxLen; omega
 have m4 : (0 + 1 + 1) * 24 ≤ 140737488355328 := by omega
 clear e5
 by_cases h1 : v / 5 - x / 5 = 0
 · have d1 : (v / 5 - x / 5 != 0) = false := by simp [h1]
   have d1' : (v / 5 - x / 5 == 0) = true := by simp [h1]
   by_cases h2 : v % 5 - x % 5 = 0
   · have d2 : (v % 5 - x % 5 != 0) = false := by simp [h2]
     have d2' : (v % 5 - x % 5 == 0) = true := by simp [h2]
     have e : turnM r x v = [] := by rw [turnM_cases, if_pos h1, if_pos h2]; rfl
     rw [e]
     have H1 := Lib.hid h1
     have H2 := Lib.hid h2
     clear h1 h2 e
     go_enter Try.func84, Try.ntmps84
     go_wp2
     go_ret
     exact ⟨_, _, rfl, ho, ext_alloc (ext_refl _) _⟩
   · have d2 : (v % 5 - x % 5 != 0) = true := by simp [h2]
     have d2' : (v % 5 - x % 5 == 0) = false := by simp [h2]
     have e : turnM r x v = [⟨(r : Int), 1, v % 5 - x % 5⟩] := by rw [turnM_cases, if_pos h1, if_neg h2]; rfl
     rw [e]
     have H1 := Lib.hid h1
     have H2 := Lib.hid h2
     clear h1 h2 e
     go_enter Try.func84, Try.ntmps84
     go_wp2_with (at_builtin; refine wpList_append_own _ rfl (.tmp 31) (.tmp 35) 33 rfl w.heap.size 75 i0 _ 3 24 Try.underlying33 hi hz0 hz1 hz2 rfl (by decide) _ _ _ rfl (ho.alloc _) _ 1 1 [.int .i64 (r : Int), .int .i64 1, .int .i64 (v % 5 - x % 5)] rfl rfl (cells_new_at _ [.int .i64 (r : Int), .int .i64 1, .int .i64 (v % 5 - x % 5)] _ (by simp)) (by simp [Value.oneCell']) m1 m2 (by simp; omega) ?_; intro v' w2 hown2 hgrow _)
     obtain ⟨A', c', rfl⟩ := own_shape hown2
     have hb := Lib.hid (((ext_alloc (ext_alloc (ext_refl w) _) _)).trans (below_row (ho.alloc _) hgrow (by simp; omega)))
     have hown2 := Lib.hid hown2
     go_ret
     exact ⟨A', c', rfl, hown2.out, hb.out⟩
 · have d1 : (v / 5 - x / 5 != 0) = true := by simp [h1]
   have d1' : (v / 5 - x / 5 == 0) = false := by simp [h1]
   by_cases h2 : v % 5 - x % 5 = 0
   · have d2 : (v % 5 - x % 5 != 0) = false := by simp [h2]
     have d2' : (v % 5 - x % 5 == 0) = true := by simp [h2]
     have e : turnM r x v = [⟨(r : Int), 0, v / 5 - x / 5⟩] := by rw [turnM_cases, if_neg h1, if_pos h2]; rfl
     rw [e]
     have H1 := Lib.hid h1
     have H2 := Lib.hid h2
     clear h1 h2 e
     go_enter Try.func84, Try.ntmps84
     go_wp2_with (at_builtin; refine wpList_append_own _ rfl (.tmp 18) (.tmp 22) 33 rfl w.heap.size 75 i0 _ 3 24 Try.underlying33 hi hz0 hz1 hz2 rfl (by decide) _ _ _ rfl (ho.alloc _) _ 1 1 [.int .i64 (r : Int), .int .i64 0, .int .i64 (v / 5 - x / 5)] rfl rfl (cells_new_at _ [.int .i64 (r : Int), .int .i64 0, .int .i64 (v / 5 - x / 5)] _ (by simp)) (by simp [Value.oneCell']) m1 m2 (by simp; omega) ?_; intro v' w2 hown2 hgrow _)
     obtain ⟨A', c', rfl⟩ := own_shape hown2
     have hb := Lib.hid (((ext_alloc (ext_alloc (ext_refl w) _) _)).trans (below_row (ho.alloc _) hgrow (by simp; omega)))
     have hown2 := Lib.hid hown2
     go_ret
     exact ⟨A', c', rfl, hown2.out, hb.out⟩
   · have d2 : (v % 5 - x % 5 != 0) = true := by simp [h2]
     have d2' : (v % 5 - x % 5 == 0) = false := by simp [h2]
     have e : turnM r x v = [⟨(r : Int), 0, v / 5 - x / 5⟩, ⟨(r : Int), 1, v % 5 - x % 5⟩] := by rw [turnM_cases, if_neg h1, if_neg h2]; rfl
     rw [e]
     have H1 := Lib.hid h1
     have H2 := Lib.hid h2
     clear h1 h2 e
     go_enter Try.func84, Try.ntmps84
     go_wp2_with (first
      | (at_builtin; refine wpList_append_own _ rfl (.tmp 18) (.tmp 22) 33 rfl w.heap.size 75 i0 _ 3 24 Try.underlying33 hi hz0 hz1 hz2 rfl (by decide) _ _ _ rfl (ho.alloc _) _ 1 1 [.int .i64 (r : Int), .int .i64 0, .int .i64 (v / 5 - x / 5)] rfl rfl (cells_new_at _ [.int .i64 (r : Int), .int .i64 0, .int .i64 (v / 5 - x / 5)] _ (by simp)) (by simp [Value.oneCell']) m1 m2 (by simp; omega) ?_; intro v' w2 hown2 hgrow _; have hb := Lib.hid (((ext_alloc (ext_alloc (ext_refl w) _) _)).trans (below_row (ho.alloc _) hgrow (by simp; omega))))
      | (at_builtin; refine wpList_append_own _ rfl (.tmp 31) (.tmp 35) 33 rfl w.heap.size 75 i0 _ 3 24 Try.underlying33 hi hz0 hz1 hz2 rfl (by decide) _ _ _ rfl (hown2.alloc _) _ 1 1 [.int .i64 (r : Int), .int .i64 1, .int .i64 (v % 5 - x % 5)] rfl rfl (cells_new_at _ [.int .i64 (r : Int), .int .i64 1, .int .i64 (v % 5 - x % 5)] _ (by simp)) (by simp [Value.oneCell']) m3 m4 (by have := hb.out.size; simp; omega) ?_; intro v'' w3 hown3 hgrow3 _))
     obtain ⟨A', c', rfl⟩ := own_shape hown3
     have hb3 := Lib.hid ((ext_alloc hb.out _).trans (below_row (hown2.alloc _) hgrow3 (by have := hb.out.size; simp; omega)))
     have hown3 := Lib.hid hown3
     go_ret
     exact ⟨A', c', rfl, hown3.out, hb3.out⟩
/-- moves and a frame of their own come back -/
def RetMF (w : World) (u lo : Int) (s : WS) (e : Ending) (w' : World) : Prop :=
 ∃ (A : Option Addr) (c' h c : Nat), e = .returned (.tuple #[.slice A s.ms.length c', frV u lo (some ⟨h, 0, none⟩) s.ds.length c]) ∧ w'.ownsRow w.heap.size 75 3 (.slice A s.ms.length c') s.ms.length (rowsV3 s.ms) ∧
  w'.ownsRow w.heap.size 96 2 (.slice (some ⟨h, 0, none⟩) s.ds.length c) s.ds.length (rowsV2 (rodsD s.ds)) ∧ Below w.heap.size w w'
end Go.Proofs.Ytihljhikhplegaa
namespace Go.Proofs.Ytihljhikhplegaa
open Go.RowKit
set_option linter.unusedVariables false
set_option linter.unusedSimpArgs false
def wnL (ws : List RW) (k : Nat) : Nat := ((ws.take k).map RW.times).sum
theorem wnL_more {ws : List RW} {k : Nat} {x : RW} (h : ws[k]? = some x) : wnL ws (k + 1) = wnL ws k + x.times := by
 unfold wnL
 rw [List.take_add_one, h]
 simp
theorem wnL_le {ws : List RW} (hw : ∀ x ∈ ws, x.times ≤ 9) : ∀ k, k ≤ ws.length → wnL ws k ≤ 9 * k := by
 intro k
 induction k with
 | zero => intro _; simp [wnL]
 | succ k ih =>
   intro hk
   obtain ⟨x, hx⟩ := list_split (l := ws) (k := k) (by omega)
   rw [wnL_more hx]
   have := hw x (List.mem_of_getElem? hx)
   have := ih (by omega)
   omega
def wnV (s : ByteArray) : Int := if scrB s = true then (wnL (rulesL s) (rulesL s).length : Int) else 0
/-- the chosen rod after a word -/
def rodO (n : Int) (r : Int) (x : RW) : Option Int :=
 let r' := if x.what = 60 then r - x.times else if x.what = 62 then r + x.times else r
 if 0 ≤ r' ∧ r' ≤ n - 1 then some r' else none
def erL (n : Int) (ws : List RW) (k : Nat) : Option Int := (ws.take k).foldl (fun o x => o.bind fun r => rodO n r x) (some (n - 1))
theorem erL_more {n : Int} {ws : List RW} {k : Nat} {x : RW} {r : Int} (h : erL n ws k = some r) (hx : ws[k]? = some x) : erL n ws (k + 1) = rodO n r x := by
 unfold erL at *
 rw [List.take_add_one, hx]
 simp [List.foldl_append, h]
theorem erL_none {n : Int} {ws : List RW} {k : Nat} (h : erL n ws k = none) : erL n ws ws.length = none := by
 unfold erL at *
 rw [List.take_length]
 conv => lhs; rw [← List.take_append_drop k ws]
 rw [List.foldl_append, h]
 generalize ws.drop k = m
 induction m with
 | nil => rfl
 | cons x m ih => exact ih
theorem erL_in {n : Int} {ws : List RW} (hn : 1 ≤ n) : ∀ k {r : Int}, k ≤ ws.length → erL n ws k = some r → 0 ≤ r ∧ r ≤ n - 1 := by
 intro k
 induction k with
 | zero => intro r _ h; unfold erL at h; simp at h; omega
 | succ k ih =>
   intro r hk h
   obtain ⟨x, hx⟩ := list_split (l := ws) (k := k) (by omega)
   rcases hq : erL n ws k with _ | q
   · have := erL_none hq
     unfold erL at h hq
     rw [List.take_add_one, hx, List.foldl_append, hq] at h
     simp at h
   · rw [erL_more hq hx] at h
     unfold rodO at h
     dsimp only at h
     generalize (if x.what = 60 then q - (x.times : Int) else if x.what = 62 then q + (x.times : Int) else q) = r2 at h
     split at h
     · injection h with h; omega
     · cases h
def erV (s : ByteArray) (z : Int) : Option Int := if scrB s = true ∧ inB z 1 8 = true then erL z (rulesL s) (rulesL s).length else none
theorem rules_81' {s : ByteArray} (h : scrB s = true) : (rulesL s).length ≤ 81 := by
 rw [rulesL_len]
 have := wordsL_len s
 unfold scrB at h
 simp only [Bool.and_eq_true, decide_eq_true_eq] at h
 omega
theorem rules_okW {s : ByteArray} (h : scrB s = true) : ∀ w ∈ rulesL s, okW w := by
 intro w hw
 unfold rulesL at hw
 obtain ⟨l, hl, rfl⟩ := List.mem_map.1 hw
 unfold scrB at h
 simp only [Bool.and_eq_true, List.all_eq_true] at h
 have := h.2 l hl
 unfold wd
 rcases ho : wordO l with _ | x
 · rw [ho] at this; cases this
 · exact wordO_ok ho
/-- the word behind a rule -/
theorem rule_word {s : ByteArray} (h : scrB s = true) {k : Nat} {l : List UInt8} (hl : (wordsL s)[k]? = some l) : ∃ x, wordO l = some x ∧ (rulesL s)[k]? = some x := by
 unfold scrB at h
 simp only [Bool.and_eq_true, List.all_eq_true] at h
 have := h.2 l (List.mem_of_getElem? hl)
 rcases ho : wordO l with _ | x
 · rw [ho] at this; cases this
 · refine ⟨x, rfl, ?_⟩
   unfold rulesL
   rw [List.getElem?_map, hl]
   show some (wd l) = some x
   unfold wd
   rw [ho]; rfl
end Go.Proofs.Ytihljhikhplegaa
