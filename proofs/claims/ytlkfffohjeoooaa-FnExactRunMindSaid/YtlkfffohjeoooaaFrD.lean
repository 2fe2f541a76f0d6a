
/- Adding a digit, taking a digit: the worker's. -/
import Derived.Test.YtlkfffohjeoooaaFrC
namespace Go.Proofs.Ytlkfffohjeoooaa
open Go.RowKit
set_option linter.unusedVariables false
set_option linter.unusedSimpArgs false
theorem addS_step {k : Nat} {d x : Int} {t : WS} (hx : t.ds[k]? = some x) (h : 0 < d) : addS (k + 1) d t = addS k ((x + d) / 10) ⟨t.ds.set k ((x + d) % 10), t.ms ++ turnM k x ((x + d) % 10), t.ask + if 0 < (x + d) / 10 then 1 else 0⟩ := by
  have e : t.ds.getD k 0 = x := by rw [List.getD_eq_getElem?_getD, hx]; rfl
  rw [addS_pos t h, e]
theorem AddFit.next {k : Nat} {d x : Int} {ds : List Int} (hx : ds[k]? = some x) (h : AddFit (k + 1) d ds) : AddFit k ((x + d) / 10) (ds.set k ((x + d) % 10)) := by
  have e : ds.getD k 0 = x := by rw [List.getD_eq_getElem?_getD, hx]; rfl
  have := h.step
  rwa [e] at this
theorem AddFit.zero {k : Nat} {ds : List Int} (h : AddFit k 0 ds) (hk : k < ds.length) : AddFit (k + 1) 0 ds := by
  obtain ⟨h1, h2, h3, h4, h5⟩ := h
  exact ⟨hk, h2, h3, h4, by simpa using h5⟩
theorem addS_zero (a b : Nat) (t : WS) : addS a 0 t = addS b 0 t := by rw [addS_none (r := a) t (by omega), addS_none (r := b) t (by omega)]
theorem takeS_step1 {k : Nat} {d x : Int} {t : WS} (hx : t.ds[k]? = some x) (h : 0 < d) (hd : d ≤ x) : takeS (k + 1) d t = ⟨t.ds.set k (x - d), t.ms ++ turnM k x (x - d), t.ask⟩ := by
  have e : t.ds.getD k 0 = x := by rw [List.getD_eq_getElem?_getD, hx]; rfl
  rw [takeS_in t h (by rw [e]; exact hd), e]
theorem takeS_step2 {k : Nat} {d x : Int} {t : WS} (hx : t.ds[k]? = some x) (h : 0 < d) (hd : ¬ d ≤ x) : takeS (k + 1) d t = takeS k 1 ⟨t.ds.set k (x - d + 10), t.ms ++ turnM k x (x - d + 10), t.ask + 1⟩ := by
  have e : t.ds.getD k 0 = x := by rw [List.getD_eq_getElem?_getD, hx]; rfl
  rw [takeS_left t h (by rw [e]; exact hd), e]
theorem TakeFit.next {k : Nat} {d x : Int} {ds : List Int} (hx : ds[k]? = some x) (h : TakeFit (k + 1) d ds) (hd : ¬ d ≤ x) : TakeFit k 1 (ds.set k (x - d + 10)) := by
  have e : ds.getD k 0 = x := by rw [List.getD_eq_getElem?_getD, hx]; rfl
  have := h.left (by rw [e]; exact hd)
  rwa [e] at this
theorem Wk.asked {w : World} {B g : Nat} {u lo z : Int} {s : WS} (h : Wk w B g u lo s) : Wk (w.setCell ⟨g, 4, none⟩ (.int .i64 z)) B g u lo ⟨s.ds, s.ms, z⟩ := by
  obtain ⟨h, c, c', A, h1, h2, h3, h4⟩ := h
  exact ⟨h, c, c', A, h1.set_ 4 _, h2, own_setF (p := ⟨g, 4, none⟩) h3 (own_nbT h3 h1 (by decide)) _, own_setF (p := ⟨g, 4, none⟩) h4 (own_nbT h4 h1 (by decide)) _⟩
theorem Wk.askedK {w0 w : World} {B g : Nat} {u lo z : Int} {s : WS} (h : Wk w B g u lo s) (hk : KeepT w0 w) : KeepT w0 (w.setCell ⟨g, 4, none⟩ (.int .i64 z)) := by
  obtain ⟨h, c, c', A, h1, _⟩ := h
  exact hk.set h1 (.inl rfl) 4 _
theorem Wk.ask_cell {w : World} {B g : Nat} {u lo : Int} {s : WS} (h : Wk w B g u lo s) : w.cell? ⟨g, 4, none⟩ = some (.int .i64 s.ask) ∧ w.frozen? ⟨g, 4, none⟩ = false := by
  obtain ⟨h, c, c', A, h1, _⟩ := h
  exact ⟨h1.c4, h1.frozen 4⟩
set_option maxRecDepth 100000 in
set_option maxHeartbeats 2000000 in
theorem add_any (B g : Nat) (u lo : Int) (s : WS) (r0 : Nat) (d0 : Int) (w : World) (hW : Wk w B g u lo s) (hf : AddFit (r0 + 1) d0 s.ds) (h8 : s.ds.length ≤ 8) (hms : s.ms.length ≤ 900000) (ha0 : 0 ≤ s.ask) (ha1 : s.ask ≤ 1000000) :
    Calls Try.prog 191 #[.pointer (some ⟨g, 0, none⟩), .int .i64 (r0 : Int), .int .i64 d0] w (Turned w B g u lo (addS (r0 + 1) d0 s)) := by
  have hlt := hW.lt
  have h9 := hf.1
  have HF := Lib.hid hf
  have HW := Lib.hid hW
  clear hf hW
  go_enter Try.func191, Try.ntmps191
  go_wp2
  go_loopw [1, 2] (fun i d wr => ∃ (r : Nat) (z e : Int) (t : WS), i = .int .i64 z ∧ z = (r : Int) - 1 ∧ d = .int .i64 e ∧ Hid (Wk wr B g u lo t) ∧ Hid (AddFit r e t.ds) ∧ Hid (addS r e t = addS (r0 + 1) d0 s) ∧ t.ds.length = s.ds.length ∧ Hid (0 < e → t.ms.length + 2 * r ≤ s.ms.length + 2 * (r0 + 1)) ∧ 0 ≤ t.ask ∧ t.ask + r ≤ s.ask + (r0 + 1) ∧ Below B w wr ∧ Hid (KeepT w wr)) (fun i d _ => (intOf i + 1).toNat + (intOf d).toNat)
  case atStart => exact ⟨r0 + 1, r0, d0, s, rfl, by omega, rfl, HW, HF, Lib.hid rfl, rfl, Lib.hid (fun _ => by omega), ha0, by omega, Below.refl _ _, Lib.hid (KeepT.refl _)⟩
  case round =>
    obtain ⟨r, z, e, t, rfl, hz, rfl, hWr, hfr, heq, hlen, hml, ht0, ht1, hbl, hkp⟩ := hrel
    by_cases he : 0 < e
    · obtain ⟨k, hrk, hk⟩ := hfr.out.rod he
      subst hrk
      have hzk : z = (k : Int) := by omega
      subst hzk
      clear hz
      obtain ⟨x, hx⟩ := list_split hk
      obtain ⟨x0, x9⟩ := hfr.out.2.2.2.1.get hx
      have e9 := hfr.out.2.2.1
      have hml := hml.out he
      have hnext := Lib.hid (hfr.out.next hx)
      have hstep := Lib.hid (addS_step (t := t) hx he)
      have HX := Lib.hid hx
      clear hx
      go_wp2_with fail
      refine (value_any B g u lo t k x _ hWr.out HX.out x0 x9).mono ?_
      rintro e1 w1 ⟨rfl, hb1⟩
      have hW1 := Lib.hid (hWr.out.ext hb1)
      have hk1 := Lib.hid (hkp.out.trans (KeepT.of_ext hb1))
      have hb1 := Lib.hid (hbl.trans (hb1.mono (by have := hbl.size; have := hWr.out.lt; omega)))
      have y0 : 0 ≤ (x + e) % 10 := by omega
      have y9 : (x + e) % 10 ≤ 9 := by omega
      go_wp2_with fail
      refine (turn_any B g u lo t k x ((x + e) % 10) _ hW1.out HX.out x0 x9 y0 y9 (by omega)).mono ?_
      rintro e2 w2 ⟨rfl, hW2, hb2, hk2⟩
      have hb2 := Lib.hid (hb1.out.trans hb2)
      have hk2 := Lib.hid (hk1.out.trans hk2)
      have hml2 := turnM_len k x ((x + e) % 10)
      obtain ⟨a4, f4⟩ := hW2.ask_cell
      have hW2 := Lib.hid hW2
      have hg2 := hW2.out.lt
      by_cases hc : 0 < (x + e) / 10
      · go_wp2
        go_roundw
        case rel => exact ⟨k, (k : Int) - 1, (x + e) / 10, ⟨t.ds.set k ((x + e) % 10), t.ms ++ turnM k x ((x + e) % 10), t.ask + 1⟩, rfl, rfl, rfl, Lib.hid hW2.out.asked, hnext, Lib.hid (by rw [← heq.out, hstep.out, if_pos hc]), by simpa using hlen, Lib.hid (fun _ => by simp only [List.length_append]; omega), by dsimp only; omega, by dsimp only; omega, hb2.out.setCell (p := ⟨g, 4, none⟩) hg2.1 _, Lib.hid (hW2.out.askedK hk2.out)⟩
        case measure => simp [intOf]; omega
      · have hw0 := Lib.hid (show (x + e) / 10 = 0 by omega)
        have hnx := hnext.out
        rw [hw0.out] at hnx
        have hnx := Lib.hid (hnx.zero (by rw [List.length_set]; exact hk))
        have hst := hstep.out
        rw [hw0.out, if_neg (by omega), Int.add_zero, addS_zero k (k + 1)] at hst
        have hst := Lib.hid hst
        go_wp2
        go_roundw
        case rel => exact ⟨k + 1, (k : Int), 0, ⟨t.ds.set k ((x + e) % 10), t.ms ++ turnM k x ((x + e) % 10), t.ask⟩, rfl, by omega, by rw [hw0.out], hW2, hnx, Lib.hid (by rw [← heq.out, hst.out]), by simpa using hlen, Lib.hid (fun h => by omega), by dsimp only; omega, by dsimp only; omega, hb2.out, hk2⟩
        case measure => have := hw0.out; simp [intOf]; omega
    · have hend := Lib.hid (addS_none (r := r) t he)
      go_wp2
      refine bodyPost_ret (v := .tuple #[]) (by simp [results, Try.results191, go_sem]) rfl ?_
      exact ⟨rfl, by rw [← heq.out, hend.out]; exact hWr.out, hbl, hkp.out⟩
set_option maxRecDepth 100000 in
set_option maxHeartbeats 2000000 in
theorem take_any (B g : Nat) (u lo : Int) (s : WS) (r0 : Nat) (d0 : Int) (w : World) (hW : Wk w B g u lo s) (hf : TakeFit (r0 + 1) d0 s.ds) (h8 : s.ds.length ≤ 8) (hms : s.ms.length ≤ 900000) (ha0 : 0 ≤ s.ask) (ha1 : s.ask ≤ 1000000) :
    Calls Try.prog 193 #[.pointer (some ⟨g, 0, none⟩), .int .i64 (r0 : Int), .int .i64 d0] w (Turned w B g u lo (takeS (r0 + 1) d0 s)) := by
  have hlt := hW.lt
  have h9 := hf.1
  have HF := Lib.hid hf
  have HW := Lib.hid hW
  clear hf hW
  go_enter Try.func193, Try.ntmps193
  go_wp2
  go_loopw [1, 2] (fun i d wr => ∃ (r : Nat) (z e : Int) (t : WS), i = .int .i64 z ∧ z = (r : Int) - 1 ∧ d = .int .i64 e ∧ Hid (Wk wr B g u lo t) ∧ Hid (TakeFit r e t.ds) ∧ Hid (takeS r e t = takeS (r0 + 1) d0 s) ∧ t.ds.length = s.ds.length ∧ t.ms.length + 2 * r ≤ s.ms.length + 2 * (r0 + 1) ∧ 0 ≤ t.ask ∧ t.ask + r ≤ s.ask + (r0 + 1) ∧ Below B w wr ∧ Hid (KeepT w wr)) (fun i _ _ => (intOf i + 1).toNat)
  case atStart => exact ⟨r0 + 1, r0, d0, s, rfl, by omega, rfl, HW, HF, Lib.hid rfl, rfl, by omega, ha0, by omega, Below.refl _ _, Lib.hid (KeepT.refl _)⟩
  case round =>
    obtain ⟨r, z, e, t, rfl, hz, rfl, hWr, hfr, heq, hlen, hml, ht0, ht1, hbl, hkp⟩ := hrel
    by_cases he : 0 < e
    · obtain ⟨k, hrk, hk⟩ := hfr.out.rod he
      subst hrk
      have hzk : z = (k : Int) := by omega
      subst hzk
      clear hz
      obtain ⟨x, hx⟩ := list_split hk
      obtain ⟨x0, x9⟩ := hfr.out.2.2.2.1.get hx
      have e9 := hfr.out.2.2.1
      have HX := Lib.hid hx
      clear hx
      go_wp2_with fail
      refine (value_any B g u lo t k x _ hWr.out HX.out x0 x9).mono ?_
      rintro e1 w1 ⟨rfl, hb1⟩
      have hW1 := Lib.hid (hWr.out.ext hb1)
      have hk1 := Lib.hid (hkp.out.trans (KeepT.of_ext hb1))
      have hb1 := Lib.hid (hbl.trans (hb1.mono (by have := hbl.size; have := hWr.out.lt; omega)))
      by_cases hc : e ≤ x
      · have hstep := Lib.hid (takeS_step1 (t := t) HX.out he hc)
        have y0 : 0 ≤ x - e := by omega
        have y9 : x - e ≤ 9 := by omega
        go_wp2_with fail
        refine (turn_any B g u lo t k x (x - e) _ hW1.out HX.out x0 x9 y0 y9 (by omega)).mono ?_
        rintro e2 w2 ⟨rfl, hW2, hb2, hk2⟩
        have hb2 := Lib.hid (hb1.out.trans hb2)
        have hk2 := Lib.hid (hk1.out.trans hk2)
        have hW2 := Lib.hid hW2
        go_wp2
        refine bodyPost_ret (v := .tuple #[]) (by simp [results, Try.results193, go_sem]) rfl ?_
        exact ⟨rfl, by rw [← heq.out, hstep.out]; exact hW2.out, hb2.out, hk2.out⟩
      · have hstep := Lib.hid (takeS_step2 (t := t) HX.out he hc)
        have hnext := Lib.hid (hfr.out.next HX.out hc)
        have y0 : 0 ≤ x - e + 10 := by omega
        have y9 : x - e + 10 ≤ 9 := by omega
        have hneg : ¬ 0 ≤ x - e := by omega
        go_wp2_with fail
        refine (turn_any B g u lo t k x (x - e + 10) _ hW1.out HX.out x0 x9 y0 y9 (by omega)).mono ?_
        rintro e2 w2 ⟨rfl, hW2, hb2, hk2⟩
        have hb2 := Lib.hid (hb1.out.trans hb2)
        have hk2 := Lib.hid (hk1.out.trans hk2)
        have hml2 := turnM_len k x (x - e + 10)
        obtain ⟨a4, f4⟩ := hW2.ask_cell
        have hW2 := Lib.hid hW2
        have hg2 := hW2.out.lt
        go_wp2
        go_roundw
        case rel => exact ⟨k, (k : Int) - 1, 1, ⟨t.ds.set k (x - e + 10), t.ms ++ turnM k x (x - e + 10), t.ask + 1⟩, rfl, rfl, rfl, Lib.hid hW2.out.asked, hnext, Lib.hid (by rw [← heq.out, hstep.out]), by simpa using hlen, by simp only [List.length_append]; omega, by dsimp only; omega, by dsimp only; omega, hb2.out.setCell (p := ⟨g, 4, none⟩) hg2.1 _, Lib.hid (hW2.out.askedK hk2.out)⟩
        case measure => simp [intOf]
    · have hend := Lib.hid (takeS_none (r := r) t he)
      go_wp2
      refine bodyPost_ret (v := .tuple #[]) (by simp [results, Try.results193, go_sem]) rfl ?_
      exact ⟨rfl, by rw [← heq.out, hend.out]; exact hWr.out, hbl, hkp.out⟩
end Go.Proofs.Ytlkfffohjeoooaa
