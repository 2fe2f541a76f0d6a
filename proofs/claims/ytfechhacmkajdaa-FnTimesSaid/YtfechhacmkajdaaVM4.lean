/- Adding a digit, taking a digit: the worker's. -/
import Derived.Test.YtfechhacmkajdaaVFrC
import Derived.Test.YtfechhacmkajdaaVM1
import Derived.Test.YtfechhacmkajdaaVM3
import Derived.Maps.AppendAt
import Derived.Test.YtfechhacmkajdaaVAp
import Derived.Deep.RegionLaw
namespace Go.Proofs.Ytfechhacmkajdaa
open Go.RowKit
set_option linter.unusedVariables false
set_option linter.unusedSimpArgs false
theorem addS_step {k : Nat} {d x : Int} {t : WS} (hx : t.ds[k]? = some x) (h : 0 < d) : addS (k + 1) d t = addS k ((x + d) / 10) ⟨t.ds.set k ((x + d) % 10), t.ms ++ turnM k x ((x + d) % 10), t.ask + if 0 < (x + d) / 10 then 1 else 0⟩ := by
 have e : t.ds.getD k 0 = x := by rw [List.getD_eq_getElem?_getD, hx]; rfl
 rw [addS_pos t h, e]
theorem AddFit.next {k : Nat} {d x : Int} {ds : List Int} (hx : ds[k]? = some x) (h : AddFit (k + 1) d ds) : AddFit k ((x + d) / 10) (ds.set k ((x + d) % 10)) := by
 have e : ds.getD k 0 = x := by rw [List.getD_eq_getElem?_getD, hx]; rfl
 have := h.step
 rwa [e] at this
theorem AddFit.zero {k : Nat} {ds : List Int} (h : AddFit k 0 ds) (hk : k < ds.length) : AddFit (k + 1) 0 ds := by
 obtain ⟨h1, h2, h3, h4, h5⟩ := h
 exact ⟨hk, h2, h3, h4, by simpa using h5⟩
theorem addS_zero (a b : Nat) (t : WS) : addS a 0 t = addS b 0 t := by rw [addS_none (r := a) t (by omega), addS_none (r := b) t (by omega)]
theorem takeS_step1 {k : Nat} {d x : Int} {t : WS} (hx : t.ds[k]? = some x) (h : 0 < d) (hd : d ≤ x) : takeS (k + 1) d t = ⟨t.ds.set k (x - d), t.ms ++ turnM k x (x - d), t.ask⟩ := by
 have e : t.ds.getD k 0 = x := by rw [List.getD_eq_getElem?_getD, hx]; rfl
 rw [takeS_in t h (by rw [e]; exact hd), e]
theorem takeS_step2 {k : Nat} {d x : Int} {t : WS} (hx : t.ds[k]? = some x) (h : 0 < d) (hd : ¬ d ≤ x) : takeS (k + 1) d t = takeS k 1 ⟨t.ds.set k (x - d + 10), t.ms ++ turnM k x (x - d + 10), t.ask + 1⟩ := by
 have e : t.ds.getD k 0 = x := by rw [List.getD_eq_getElem?_getD, hx]; rfl
 rw [takeS_left t h (by rw [e]; exact hd), e]
theorem TakeFit.next {k : Nat} {d x : Int} {ds : List Int} (hx : ds[k]? = some x) (h : TakeFit (k + 1) d ds) (hd : ¬ d ≤ x) : TakeFit k 1 (ds.set k (x - d + 10)) := by
 have e : ds.getD k 0 = x := by rw [List.getD_eq_getElem?_getD, hx]; rfl
 have := h.left (by rw [e]; exact hd)
 rwa [e] at this
theorem Wk.asked {w : World} {B g : Nat} {u lo z : Int} {s : WS} (h : Wk w B g u lo s) : Wk (w.setCell ⟨g, 4, none⟩ (.int .i64 z)) B g u lo ⟨s.ds, s.ms, z⟩ := by
 obtain ⟨h, c, c', A, h1, h2, h3, h4⟩ := h
 exact ⟨h, c, c', A, h1.set_ 4 _, h2, own_setF (p := ⟨g, 4, none⟩) h3 (own_nbT h3 h1 (by decide)) _, own_setF (p := ⟨g, 4, none⟩) h4 (own_nbT h4 h1 (by decide)) _⟩
theorem Wk.askedK {w0 w : World} {B g : Nat} {u lo z : Int} {s : WS} (h : Wk w B g u lo s) (hk : KeepT w0 w) : KeepT w0 (w.setCell ⟨g, 4, none⟩ (.int .i64 z)) := by
 obtain ⟨h, c, c', A, h1, _⟩ := h
 exact hk.set h1 (.inl rfl) 4 _
theorem Wk.ask_cell {w : World} {B g : Nat} {u lo : Int} {s : WS} (h : Wk w B g u lo s) : w.cell? ⟨g, 4, none⟩ = some (.int .i64 s.ask) ∧ w.frozen? ⟨g, 4, none⟩ = false := by
 obtain ⟨h, c, c', A, h1, _⟩ := h
 exact ⟨h1.c4, h1.frozen 4⟩
set_option maxRecDepth 100000 in
set_option maxHeartbeats 2000000 in
theorem add_any (B g : Nat) (u lo : Int) (s : WS) (r0 : Nat) (d0 : Int) (w : World) (hW : Wk w B g u lo s) (hf : AddFit (r0 + 1) d0 s.ds) (h8 : s.ds.length ≤ 8) (hms : s.ms.length ≤ 900000) (ha0 : 0 ≤ s.ask) (ha1 : s.ask ≤ 1000000) :
 Calls Try.prog 57 #[.pointer (some ⟨g, 0, none⟩), .int .i64 (r0 : Int), .int .i64 d0] w (Turned w B g u lo (addS (r0 + 1) d0 s)) := by
 have hlt := hW.lt
 have h9 := hf.1
 have HF := Lib.hid hf
 have HW := Lib.hid hW
 clear hf hW
 go_enter Try.func57, Try.ntmps57
 go_wp2
 go_loopw [1, 2] (fun i d wr => ∃ (r : Nat) (z e : Int) (t : WS), i = .int .i64 z ∧ z = (r : Int) - 1 ∧ d = .int .i64 e ∧ Hid (Wk wr B g u lo t) ∧ Hid (AddFit r e t.ds) ∧ Hid (addS r e t = addS (r0 + 1) d0 s) ∧ t.ds.length = s.ds.length ∧ Hid (0 < e → t.ms.length + 2 * r ≤ s.ms.length + 2 * (r0 + 1)) ∧ 0 ≤ t.ask ∧ t.ask + r ≤ s.ask + (r0 + 1) ∧ Below B w wr ∧ Hid (KeepT w wr)) (fun i d _ => (intOf i + 1).toNat + (intOf d).toNat)
 case atStart => exact ⟨r0 + 1, r0, d0, s, rfl, by omega, rfl, HW, HF, Lib.hid rfl, rfl, Lib.hid (fun _ => by omega), ha0, by omega, Below.refl _ _, Lib.hid (KeepT.refl _)⟩
 case round =>
  obtain ⟨r, z, e, t, rfl, hz, rfl, hWr, hfr, heq, hlen, hml, ht0, ht1, hbl, hkp⟩ := hrel
  by_cases he : 0 < e
  · obtain ⟨k, hrk, hk⟩ := hfr.out.rod he
    subst hrk
    have hzk : z = (k : Int) := by omega
    subst hzk
    clear hz
    obtain ⟨x, hx⟩ := list_split hk
    obtain ⟨x0, x9⟩ := hfr.out.2.2.2.1.get hx
    have e9 := hfr.out.2.2.1
    have hml := hml.out he
    have hnext := Lib.hid (hfr.out.next hx)
    have hstep := Lib.hid (addS_step (t := t) hx he)
    have HX := Lib.hid hx
    clear hx
    go_wp2_with fail
    refine (value_any B g u lo t k x _ hWr.out HX.out x0 x9).mono ?_
    rintro e1 w1 ⟨rfl, hb1⟩
    have hW1 := Lib.hid (hWr.out.ext hb1)
    have hk1 := Lib.hid (hkp.out.trans (KeepT.of_ext hb1))
    have hb1 := Lib.hid (hbl.trans (hb1.mono (by have := hbl.size; have := hWr.out.lt; omega)))
    have y0 : 0 ≤ (x + e) % 10 := by omega
    have y9 : (x + e) % 10 ≤ 9 := by omega
    go_wp2_with fail
    refine (turn_any B g u lo t k x ((x + e) % 10) _ hW1.out HX.out x0 x9 y0 y9 (by omega)).mono ?_
    rintro e2 w2 ⟨rfl, hW2, hb2, hk2⟩
    have hb2 := Lib.hid (hb1.out.trans hb2)
    have hk2 := Lib.hid (hk1.out.trans hk2)
    have hml2 := turnM_len k x ((x + e) % 10)
    obtain ⟨a4, f4⟩ := hW2.ask_cell
    have hW2 := Lib.hid hW2
    have hg2 := hW2.out.lt
    by_cases hc : 0 < (x + e) / 10
    · go_wp2
      go_roundw
      case rel => exact ⟨k, (k : Int) - 1, (x + e) / 10, ⟨t.ds.set k ((x + e) % 10), t.ms ++ turnM k x ((x + e) % 10), t.ask + 1⟩, rfl, rfl, rfl, Lib.hid hW2.out.asked, hnext, Lib.hid (by rw [← heq.out, hstep.out, if_pos hc]), by simpa using hlen, Lib.hid (fun _ => by simp only [List.length_append]; omega), by dsimp only; omega, by dsimp only; omega, hb2.out.setCell (p := ⟨g, 4, none⟩) hg2.1 _, Lib.hid (hW2.out.askedK hk2.out)⟩
      case measure => simp [intOf]; omega
    · have hw0 := Lib.hid (show (x + e) / 10 = 0 by omega)
      have hnx := hnext.out
      rw [hw0.out] at hnx
      have hnx := Lib.hid (hnx.zero (by rw [List.length_set]; exact hk))
      have hst := hstep.out
      rw [hw0.out, if_neg (by omega), Int.add_zero, addS_zero k (k + 1)] at hst
      have hst := Lib.hid hst
      go_wp2
      go_roundw
      case rel => exact ⟨k + 1, (k : Int), 0, ⟨t.ds.set k ((x + e) % 10), t.ms ++ turnM k x ((x + e) % 10), t.ask⟩, rfl, by omega, by rw [hw0.out], hW2, hnx, Lib.hid (by rw [← heq.out, hst.out]), by simpa using hlen, Lib.hid (fun h => by omega), by dsimp only; omega, by dsimp only; omega, hb2.out, hk2⟩
      case measure => have := hw0.out; simp [intOf]; omega
  · have hend := Lib.hid (addS_none (r := r) t he)
    go_wp2
    refine bodyPost_ret (v := .tuple #[]) (by simp [results, Try.results57, go_sem]) rfl ?_
    exact ⟨rfl, by rw [← heq.out, hend.out]; exact hWr.out, hbl, hkp.out⟩
end Go.Proofs.Ytfechhacmkajdaa
namespace Go.Proofs.Ytfechhacmkajdaa
open Go.RowKit
set_option linter.unusedVariables false
set_option linter.unusedSimpArgs false
/-- what is read stays in a world that only has more -/
theorem rdx {w w' : World} {size n : Nat} {A : Option Addr} {xs : List Value} (h : Reads w w.heap.size size A n xs) (hb : Below w.heap.size w w') : Reads w' w'.heap.size size A n xs := (h.below hb).more hb.size
def goodB (u lo : Int) (l : List R2) : Bool := frB u lo l && stdB l
/-- nothing comes back but this -/
def RetV (v : Value) (w : World) (e : Ending) (w' : World) : Prop := e = .returned v ∧ Below w.heap.size w w'
/-- a worker comes back -/
def RetWk (w : World) (u lo : Int) (s : WS) (e : Ending) (w' : World) : Prop := ∃ g, e = .returned (.tuple #[.pointer (some ⟨g, 0, none⟩), .bool true]) ∧ Wk w' w.heap.size g u lo s ∧ Below w.heap.size w w'
theorem Wk.mono {w : World} {B B' g : Nat} {u lo : Int} {s : WS} (h : Wk w B g u lo s) (hB : B' ≤ B) : Wk w B' g u lo s := by
 obtain ⟨h, c, c', A, h1, h2, h3, h4⟩ := h
 exact ⟨h, c, c', A, h1, by omega, own_base h3 hB, own_base h4 hB⟩
theorem begin_no (u lo : Int) (A : Option Addr) (n c : Nat) (l : List R2) (w : World) (hn : n ≤ 1048576) (h : Reads w w.heap.size 2 A n (rowsV2 l)) (hg : goodB u lo l = false) :
 Calls Try.prog 54 #[frV u lo A n c] w (RetV (.tuple #[.pointer none, .bool false]) w) := by
 have H := Lib.hid h
 clear h
 cases hf : frB u lo l
 · have hg := Lib.hid hg
   go_enter Try.func54, Try.ntmps54
   go_wp2_with fail
   refine (isFrame_any u lo A n c l _ hn (rdx H.out (ext_alloc (ext_refl w) _))).mono ?_
   rw [hf]
   rintro e w1 ⟨rfl, hb1⟩
   go_wp2
   go_ret2
   exact ⟨rfl, (by repeat (first | exact ext_refl _ | assumption | refine ext_alloc ?_ _ | refine ext_drew ?_ | refine ext_drewN ?_ _ | refine ext_set ?_ (by simp <;> omega) _ | refine ext_trans ?_ (by assumption)))⟩
 · have hs : stdB l = false := by simpa [goodB, hf] using hg
   have hg := Lib.hid hg
   go_enter Try.func54, Try.ntmps54
   go_wp2_with fail
   refine (isFrame_any u lo A n c l _ hn (rdx H.out (ext_alloc (ext_refl w) _))).mono ?_
   rw [hf]
   rintro e w1 ⟨rfl, hb1⟩
   have hb2 := ext_trans (ext_alloc (ext_refl w) _) hb1
   obtain ⟨hc, hff⟩ := bcell hb1
   have hz : w.heap.size < w1.heap.size := by have := hb1.size; simp at this; omega
   go_wp2_with fail
   refine (standard_any u lo A n c l _ hn (rdx H.out hb2)).mono ?_
   rw [hs]
   rintro e w3 ⟨rfl, hb3⟩
   go_wp2
   go_ret2
   exact ⟨rfl, ext_trans hb2 hb3⟩
set_option maxRecDepth 100000 in
theorem begin_yes (u lo : Int) (A : Option Addr) (n c : Nat) (l : List R2) (w : World) (hn : n ≤ 1048576) (h : Reads w w.heap.size 2 A n (rowsV2 l)) (hg : goodB u lo l = true) :
 Calls Try.prog 54 #[frV u lo A n c] w (RetWk w u lo ⟨dsOf l, [], 0⟩) := by
 have hl := rows_len2 h
 obtain ⟨hf, hs⟩ : frB u lo l = true ∧ stdB l = true := by simpa [goodB] using hg
 have hn1 := (frB_head hf).2.2.1
 rw [hl] at hn1
 have HL := Lib.hid (show (dsOf l).length = n by rw [dsOf_len, hl])
 have HR := Lib.hid (rodsD_dsOf hf hs)
 have H := Lib.hid h
 have hg := Lib.hid hg
 clear h hl
 go_enter Try.func54, Try.ntmps54
 go_wp2_with fail
 refine (isFrame_any u lo A n c l _ hn (rdx H.out (ext_alloc (ext_refl w) _))).mono ?_
 rw [hf]
 rintro e w1 ⟨rfl, hb1⟩
 have hb2 := Lib.hid (ext_trans (ext_alloc (ext_refl w) _) hb1)
 have BF1 := Lib.hid ((Blk.born w #[.int .i64 u, .int .i64 lo, .slice A n c] 42 rfl).ext hb1)
 obtain ⟨a0, a1, a2⟩ := BF1.out.q3
 clear hb1
 go_wp2_with fail
 refine (standard_any u lo A n c l _ hn (rdx H.out hb2.out)).mono ?_
 rw [hs]
 rintro e w3 ⟨rfl, hb3⟩
 have hb4 := Lib.hid (ext_trans hb2.out hb3)
 have BF3 := Lib.hid (BF1.out.ext hb3)
 obtain ⟨a0', a1', a2'⟩ := BF3.out.q3
 clear hb3 a0 a1 a2
 go_wp2_with fail
 refine (own_fr u lo A n c l _ hn1 hn (rdx H.out hb4.out)).mono ?_
 rintro e w5 ⟨g, c', rfl, hr, hb5⟩
 have hr := Lib.hid (own_base hr hb4.out.size)
 have hb6 := Lib.hid (ext_trans hb4.out hb5)
 clear hb5 a0' a1' a2'
 go_wp2
 go_ret2
 refine ⟨_, rfl, ⟨g, c', 0, none, ?_, hb6.out.size, ?_, ?_⟩, ext_alloc hb6.out _⟩
 · rw [HL.out]; exact Blk.born _ _ _ rfl
 · rw [HL.out, HR.out]; exact hr.out.alloc _
 · exact World.ownsRow_nil _ _ _ _
theorem fitsOn_b (u lo : Int) (A : Option Addr) (n c : Nat) (m : Int) (b : Bool) (w : World) (hn : n ≤ 8) (hb : inB m 0 (pw n - 1) = b) :
 Calls Try.prog 52 #[frV u lo A n c, .int .i64 m] w fun e w' => e = .returned (.bool b) ∧ Below w.heap.size w w' := by
 subst hb
 exact fitsOn_any u lo A n c m w hn
/-- what can be added -/
def canB (l : List R2) (m : Int) : Bool := inB m 0 (pw l.length - 1) && inB (numR l + m) 0 (pw l.length - 1)
set_option maxRecDepth 100000 in
theorem canAdd_any (u lo : Int) (A : Option Addr) (n c : Nat) (l : List R2) (m : Int) (w : World) (hf : frB u lo l = true) (h : Reads w w.heap.size 2 A n (rowsV2 l)) :
 Calls Try.prog 55 #[frV u lo A n c, .int .i64 m] w (RetV (.bool (canB l m)) w) := by
 have hl := rows_len2 h
 have hn8 := (frB_head hf).2.2.2
 rw [hl] at hn8
 have hp0 := pw_pos n
 have hp1 := pw_lt hn8
 have hnb := numR_bounds hf l.length
 rw [numR_all l _ (Nat.le_refl _)] at hnb
 have H := Lib.hid h
 have HF := Lib.hid hf
 have E : Hid (canB l m = (inB m 0 (pw n - 1) && inB (numR l + m) 0 (pw n - 1))) := Lib.hid (by rw [← hl]; rfl)
 clear h hl hf
 cases hb : inB m 0 (pw n - 1)
 · go_enter Try.func55, Try.ntmps55
   go_wp2_with fail
   (refine wp_region_later (by kernel_rfl) (by kernel_rfl) ?_; (repeat (go_big_quiet_step (first | (go_at_call 52; with_reducible exact Calls.later_of (fitsOn_b u lo A n c m _ _ hn8 hb))))); refine wpQuiet_nil ?_; intro w1 hw1; obtain ⟨⟨wl, hbL⟩, hw1'⟩ := hw1; simp only at hw1'; subst hw1'; obtain ⟨hcL, hfL⟩ := bcell hbL)
   go_wp2
   go_ret
   exact ⟨ret_bool (by rw [E.out, hb]; rfl), (by repeat (first | exact ext_refl _ | assumption | refine ext_alloc ?_ _ | refine ext_drew ?_ | refine ext_drewN ?_ _ | refine ext_set ?_ (by simp <;> omega) _ | refine ext_trans ?_ (by assumption)))⟩
 · have hm := inB_iff.1 hb
   obtain ⟨m0, m1⟩ := hm
   obtain ⟨n0, n1⟩ := hnb
   go_enter Try.func55, Try.ntmps55
   go_wp2_with fail
   (refine wp_region_later (by kernel_rfl) (by kernel_rfl) ?_; (repeat (go_big_quiet_step (first | (go_at_call 52; with_reducible exact Calls.later_of (fitsOn_b u lo A n c m _ _ hn8 hb)) | (go_at_call 52; exact Calls.later_of (fitsOn_any u lo A n c _ _ hn8)) | (go_at_call 45; exact Calls.later_of (number_any u lo A n c l _ HF.out (rdx (rdx H.out (ext_alloc (ext_refl w) _)) (Later.h _))))))); refine wpQuiet_nil ?_; intro w1 hw1; obtain ⟨⟨wl, hbL⟩, hw1'⟩ := hw1; simp only at hw1'; subst hw1'; obtain ⟨hcL, hfL⟩ := bcell hbL)
   go_wp2
   go_ret
   exact ⟨ret_bool (by rw [E.out, hb]; rfl), (by repeat (first | exact ext_refl _ | assumption | refine ext_alloc ?_ _ | refine ext_drew ?_ | refine ext_drewN ?_ _ | refine ext_set ?_ (by simp <;> omega) _ | refine ext_trans ?_ (by assumption)))⟩
end Go.Proofs.Ytfechhacmkajdaa
namespace Go.Proofs.Ytfechhacmkajdaa
open Go.RowKit
set_option linter.unusedVariables false
set_option linter.unusedSimpArgs false
/-- the box of a frame, behind it only more -/
theorem box_frame {w wr : World} {u lo : Int} {A : Option Addr} {n c : Nat} (hb : Below (w.heap.size + 1) (w.alloc (.cells #[.int .i64 u, .int .i64 lo, .slice A n c] 42)) wr) :
 Blk wr w.heap.size 42 #[.int .i64 u, .int .i64 lo, .slice A n c] ∧ Below w.heap.size w wr ∧ w.heap.size < wr.heap.size := by
 have hs := hb.size
 simp at hs
 exact ⟨(Blk.born w _ _ rfl).below hb (by omega), ((ext_refl w).alloc (Nat.le_refl _) _).trans (hb.mono (Nat.le_succ _)), by omega⟩
theorem l1In_b (n lo hi : Int) (b : Bool) (w : World) (hb : inB n lo hi = b) :
 Calls Try.prog 66 #[.int .i64 n, .int .i64 lo, .int .i64 hi] w fun e w' => e = .returned (.bool b) ∧ Below w.heap.size w w' := by
 subst hb
 exact (inB_l1In n lo hi w).mono fun e w' ⟨h, hw⟩ => ⟨h, by rw [← hw]; exact ext_refl _⟩
set_option maxRecDepth 100000 in
set_option maxHeartbeats 1000000 in
theorem l2Good_any (u lo : Int) (A : Option Addr) (n c : Nat) (l : List R2) (w : World) (hn : n ≤ 1048576) (h : Reads w w.heap.size 2 A n (rowsV2 l)) :
 Calls Try.prog 77 #[frV u lo A n c] w (RetV (.bool (frB u lo l)) w) := by
 have hl := rows_len2 h
 have H := Lib.hid h
 have HL := Lib.hid hl
 clear h hl
 have E : Hid (frB u lo l = (inB u 1 2 && inB lo 4 5 && inB n 1 8 && l.all (rodB u lo))) := Lib.hid (by rw [← HL.out]; rfl)
 go_enter Try.func77, Try.ntmps77
 go_wp2
 go_loopw [3] (fun i wr => ∃ k : Nat, k ≤ n ∧ i = .int .i64 k ∧ Hid (Below (w.heap.size + 1) (w.alloc (.cells #[.int .i64 u, .int .i64 lo, .slice A n c] 42)) wr) ∧ Hid ((l.take k).all (rodB u lo) = true)) (fun i _ => n - (intOf i).toNat)
 case atStart => exact ⟨0, Nat.zero_le _, rfl, Lib.hid (Below.refl _ _), Lib.hid rfl⟩
 case round =>
  obtain ⟨k, hk, rfl, hbl, hok⟩ := hrel
  obtain ⟨BF, hb0, hs0⟩ := box_frame hbl.out
  have hb0 := Lib.hid hb0
  obtain ⟨d0, d1, d2⟩ := BF.q3
  clear BF
  by_cases hlt : k < n
  · obtain ⟨r, hr⟩ := list_split (l := l) (k := k) (by rw [HL.out]; exact hlt)
    obtain ⟨b, o, rfl, hb, c0, c1⟩ := rows_at2 (rdx H.out hb0.out) hr
    cases ha : inB r.a 0 u
    · have hbad := Lib.hid (all_bad (p := rodB u lo) hr (by simp [rodB, ha]))
      clear hr
      go_wp2
      (refine wp_region_later (by kernel_rfl) (by kernel_rfl) ?_; (repeat (go_big_quiet_step (first | (go_at_call 66; with_reducible exact Calls.later_of (l1In_b _ _ _ _ _ ha))))); refine wpQuiet_nil ?_; intro w1 hw1; obtain ⟨⟨wl, hbL⟩, hw1'⟩ := hw1; simp only at hw1'; subst hw1'; obtain ⟨hcL, hfL⟩ := bcell hbL)
      have hb3 := Lib.hid (ext_trans hb0.out hbL)
      clear hbL hcL hfL
      go_wp2
      go_ret
      exact ⟨ret_bool (by rw [E.out, hbad.out]; simp), hb3.out⟩
    cases hb2 : inB r.b 0 lo
    · have hbad := Lib.hid (all_bad (p := rodB u lo) hr (by simp [rodB, ha, hb2]))
      clear hr
      go_wp2
      (refine wp_region_later (by kernel_rfl) (by kernel_rfl) ?_; (repeat (go_big_quiet_step (first | (go_at_call 66; with_reducible exact Calls.later_of (l1In_b _ _ _ _ _ ha)) | (go_at_call 66; with_reducible exact Calls.later_of (l1In_b _ _ _ _ _ hb2))))); refine wpQuiet_nil ?_; intro w1 hw1; obtain ⟨⟨wl, hbL⟩, hw1'⟩ := hw1; simp only at hw1'; subst hw1'; obtain ⟨hcL, hfL⟩ := bcell hbL)
      have hb3 := Lib.hid (ext_trans hb0.out hbL)
      clear hbL hcL hfL
      go_wp2
      go_ret
      exact ⟨ret_bool (by rw [E.out, hbad.out]; simp), hb3.out⟩
    have hgood := Lib.hid (all_snoc hok.out hr (by simp [rodB, ha, hb2]))
    clear hr
    go_wp2
    (refine wp_region_later (by kernel_rfl) (by kernel_rfl) ?_; (repeat (go_big_quiet_step (first | (go_at_call 66; with_reducible exact Calls.later_of (l1In_b _ _ _ _ _ ha)) | (go_at_call 66; with_reducible exact Calls.later_of (l1In_b _ _ _ _ _ hb2))))); refine wpQuiet_nil ?_; intro w1 hw1; obtain ⟨⟨wl, hbL⟩, hw1'⟩ := hw1; simp only at hw1'; subst hw1'; obtain ⟨hcL, hfL⟩ := bcell hbL)
    go_wp2
    go_roundw
    case rel => exact ⟨k + 1, by omega, by go_num, Lib.hid (hbl.out.trans (hbL.mono hs0)), hgood⟩
    case measure => simp [intOf]; omega
  · obtain rfl : k = n := by omega
    have hall := Lib.hid (all_whole hok.out (by rw [HL.out]; exact Nat.le_refl _))
    cases h1 : inB u 1 2
    · go_wp2_with (go_at_call 66; refine (inB_l1In _ _ _ _).mono ?_; rintro e w' ⟨rfl, rfl⟩)
      go_ret
      exact ⟨ret_bool (by rw [E.out, h1]; rfl), hb0.out⟩
    cases h2 : inB lo 4 5
    · go_wp2_with (go_at_call 66; refine (inB_l1In _ _ _ _).mono ?_; rintro e w' ⟨rfl, rfl⟩)
      go_ret
      exact ⟨ret_bool (by rw [E.out, h1, h2]; rfl), hb0.out⟩
    cases h3 : inB (k : Int) 1 8
    · go_wp2_with (go_at_call 66; refine (inB_l1In _ _ _ _).mono ?_; rintro e w' ⟨rfl, rfl⟩)
      go_ret
      exact ⟨ret_bool (by rw [E.out, h1, h2, h3]; rfl), hb0.out⟩
    go_wp2_with (go_at_call 66; refine (inB_l1In _ _ _ _).mono ?_; rintro e w' ⟨rfl, rfl⟩)
    go_ret
    exact ⟨ret_bool (by rw [E.out, h1, h2, h3, hall.out]; rfl), hb0.out⟩
theorem l2Value_any (r : R2) (w : World) (h : Sm r) :
 Calls Try.prog 62 #[r.val] w fun e w' => e = .returned (.int .i64 (dv r)) ∧ Below w.heap.size w w' := by
 obtain ⟨⟨h1, h2⟩, h3, h4⟩ := h
 go_enter Try.func62, Try.ntmps62
 go_wp2
 go_ret
 exact ⟨rfl, (by repeat (first | exact ext_refl _ | assumption | refine ext_alloc ?_ _ | refine ext_drew ?_ | refine ext_drewN ?_ _ | refine ext_set ?_ (by simp <;> omega) _ | refine ext_trans ?_ (by assumption)))⟩
theorem frB_Sm {u lo : Int} {l : List R2} (h : frB u lo l = true) {k : Nat} {r : R2} (hr : l[k]? = some r) : Sm r := by
 have h1 := frB_rod h hr
 have h2 := frB_head h
 unfold Sm
 omega
set_option maxHeartbeats 1000000 in
theorem l2Number_any (u lo : Int) (A : Option Addr) (n c : Nat) (l : List R2) (w : World) (hf : frB u lo l = true) (h : Reads w w.heap.size 2 A n (rowsV2 l)) :
 Calls Try.prog 73 #[frV u lo A n c] w fun e w' => e = .returned (.int .i64 (numR l)) ∧ Below w.heap.size w w' := by
 have hl := rows_len2 h
 obtain ⟨hu, hlo, hn1, hn8⟩ := frB_head hf
 rw [hl] at hn1 hn8
 have HF := Lib.hid hf
 have H := Lib.hid h
 have HL := Lib.hid hl
 clear h hl hf
 go_enter Try.func73, Try.ntmps73
 go_wp2
 go_loopw [3, 4] (fun s i wr => ∃ k : Nat, k ≤ n ∧ i = .int .i64 k ∧ s = .int .i64 (numR (l.take k)) ∧ Hid (Below (w.heap.size + 1) (w.alloc (.cells #[.int .i64 u, .int .i64 lo, .slice A n c] 42)) wr)) (fun _ i _ => n - (intOf i).toNat)
 case atStart => exact ⟨0, Nat.zero_le _, rfl, rfl, Lib.hid (Below.refl _ _)⟩
 case round =>
  obtain ⟨k, hk, rfl, rfl, hbl⟩ := hrel
  obtain ⟨BF, hb0, hs0⟩ := box_frame hbl.out
  have hb0 := Lib.hid hb0
  obtain ⟨d0, d1, d2⟩ := BF.q3
  clear BF
  obtain ⟨m0, m1⟩ := numR_bounds HF.out k
  by_cases hlt : k < n
  · obtain ⟨r, hr⟩ := list_split (l := l) (k := k) (by rw [HL.out]; exact hlt)
    obtain ⟨b, o, rfl, hb, c0, c1⟩ := rows_at2 (rdx H.out hb0.out) hr
    have hsm := frB_Sm HF.out hr
    obtain ⟨r1, r2, r3, r4⟩ := frB_rod HF.out hr
    have hnew := Lib.hid (numR_take hr)
    have hv0 : 0 ≤ dv r := by unfold dv; omega
    have hv1 : dv r ≤ 1000 := by unfold dv; omega
    have hdv := Lib.hid (show dv r = 5 * r.a + r.b from rfl)
    clear hr
    generalize numR (l.take k) = M at *
    go_wp2_with fail
    refine (l2Value_any r _ hsm).mono ?_
    rintro e w1 ⟨rfl, hb1⟩
    go_wp2
    go_roundw
    case rel => exact ⟨k + 1, by omega, by go_num, by rw [hnew.out, ← hdv.out], Lib.hid (hbl.out.trans (hb1.mono hs0))⟩
    case measure => simp [intOf]; omega
  · obtain rfl : k = n := by omega
    have hall := Lib.hid (numR_all l k (by rw [HL.out]; exact Nat.le_refl _))
    go_wp2
    go_ret
    exact ⟨ret_int (by rw [hall.out]), hb0.out⟩
theorem goodB_comm (u lo : Int) (l : List R2) : goodB u lo l = (stdB l && frB u lo l) := by unfold goodB; exact Bool.and_comm _ _
set_option maxHeartbeats 1000000 in
theorem l2Standard_any (u lo : Int) (A : Option Addr) (n c : Nat) (l : List R2) (w : World) (hn : n ≤ 1048576) (h : Reads w w.heap.size 2 A n (rowsV2 l)) :
 Calls Try.prog 72 #[frV u lo A n c] w (RetV (.bool (goodB u lo l)) w) := by
 have hl := rows_len2 h
 have H := Lib.hid h
 have HL := Lib.hid hl
 clear h hl
 go_enter Try.func72, Try.ntmps72
 go_wp2
 go_loopw [3] (fun i wr => ∃ k : Nat, k ≤ n ∧ i = .int .i64 k ∧ Hid (Below (w.heap.size + 1) (w.alloc (.cells #[.int .i64 u, .int .i64 lo, .slice A n c] 42)) wr) ∧ Hid ((l.take k).all stdR = true)) (fun i _ => n - (intOf i).toNat)
 case atStart => exact ⟨0, Nat.zero_le _, rfl, Lib.hid (Below.refl _ _), Lib.hid rfl⟩
 case round =>
  obtain ⟨k, hk, rfl, hbl, hok⟩ := hrel
  obtain ⟨BF, hb0, hs0⟩ := box_frame hbl.out
  have hb0 := Lib.hid hb0
  obtain ⟨d0, d1, d2⟩ := BF.q3
  clear BF
  by_cases hlt : k < n
  · obtain ⟨r, hr⟩ := list_split (l := l) (k := k) (by rw [HL.out]; exact hlt)
    obtain ⟨b, o, rfl, hb, c0, c1⟩ := rows_at2 (rdx H.out hb0.out) hr
    by_cases hgd : r.a ≤ 1 ∧ r.b ≤ 4
    · have hgood := Lib.hid (all_snoc hok.out hr (std_good hgd.1 hgd.2))
      obtain ⟨g1, g2⟩ := hgd
      clear hr
      go_wp2
      go_roundw
      case rel => exact ⟨k + 1, by omega, by go_num, hbl, hgood⟩
      case measure => simp [intOf]; omega
    · have hbad := Lib.hid (all_bad hr (std_bad hgd))
      clear hr
      go_wp2
      all_goals first
       | (go_ret; exact ⟨ret_bool (by rw [goodB_comm]; unfold stdB; rw [hbad.out]; rfl), hb0.out⟩)
       | (exfalso; omega)
  · obtain rfl : k = n := by omega
    have hall := Lib.hid (show goodB u lo l = frB u lo l by rw [goodB_comm]; unfold stdB; rw [all_whole hok.out (by rw [HL.out]; exact Nat.le_refl _)]; rfl)
    go_wp2_with fail
    refine (l2Good_any u lo A k c l _ hn (rdx H.out hb0.out)).mono ?_
    rw [← hall.out]
    rintro e w1 ⟨rfl, hb1⟩
    go_wp2
    go_ret
    exact ⟨rfl, ext_trans hb0.out hb1⟩
theorem l2Power_any (z : Int) (n : Nat) (w : World) (hz : z = n) (hn : n ≤ 8) :
 Calls Try.prog 31 #[.int .i64 z] w fun e w' => e = .returned (.int .i64 (pw n)) ∧ w = w' := by
 subst hz
 go_enter Try.func31, Try.ntmps31
 go_wp2
 go_loop [3, 4] (fun p i => ∃ k : Nat, k ≤ n ∧ i = .int .i64 (k : Int) ∧ p = .int .i64 (pw k)) (fun _ i => n - (intOf i).toNat)
 case atStart => exact ⟨0, Nat.zero_le _, rfl, rfl⟩
 case round =>
  obtain ⟨k, hk, rfl, rfl⟩ := hrel
  have hp0 := pw_pos k
  have hp1 := pw_lt (n := k) (by omega)
  have hs := Lib.hid (pw_succ k)
  by_cases hlt : k < n
  · generalize pw k = P at *
    go_wp2
    go_round
    case rel => exact ⟨k + 1, by omega, by go_num, by rw [hs.out]⟩
    case measure => simp [intOf]; omega
  · obtain rfl : k = n := by omega
    go_wp2
    go_ret
    exact ⟨rfl, rfl⟩
theorem l2Digit_any (d : Int) (w : World) (h0 : 0 ≤ d) (h1 : d ≤ 1000) :
 Calls Try.prog 58 #[.int .i64 d] w fun e w' => e = .returned (rodD d).val ∧ Below w.heap.size w w' := by
 go_enter Try.func58, Try.ntmps58
 go_wp2
 refine bodyPost_ret (v := .agg #[.int .i64 (d / 5), .int .i64 (d % 5)]) (by simp [results, Try.results58, go_sem]) rfl ⟨rfl, (by repeat (first | exact ext_refl _ | assumption | refine ext_alloc ?_ _ | refine ext_drew ?_ | refine ext_drewN ?_ _ | refine ext_set ?_ (by simp <;> omega) _ | refine ext_trans ?_ (by assumption)))⟩
end Go.Proofs.Ytfechhacmkajdaa
namespace Go.Proofs.Ytfechhacmkajdaa
open Go.RowKit
set_option linter.unusedVariables false
set_option linter.unusedSimpArgs false
/-- the digits of m for n rods, from the left -/
def digs (n : Nat) (m : Int) : List Int := (List.range n).map (dg n m)
theorem digs_len (n : Nat) (m : Int) : (digs n m).length = n := by simp [digs]
theorem digs_get {n k : Nat} (m : Int) (h : k < n) : (digs n m)[k]? = some (dg n m k) := by simp [digs, h]
/-- the last j of them, zeros before -/
def digsTo (n : Nat) (m : Int) (j : Nat) : List Int := (List.range n).map fun i => if n - j ≤ i then dg n m i else 0
theorem digsTo_zero (n : Nat) (m : Int) : digsTo n m 0 = List.replicate n 0 := by
 apply List.ext_getElem?
 intro i
 unfold digsTo
 by_cases h : i < n
 · have : ¬ n ≤ i := by omega
   simp [List.getElem?_replicate, h]; omega
 · simp [List.getElem?_replicate, h]
theorem digsTo_all (n : Nat) (m : Int) : digsTo n m n = digs n m := by
 unfold digsTo digs
 exact List.map_congr_left fun i _ => by simp
theorem digsTo_set {n j : Nat} (m : Int) (h : j < n) : (digsTo n m j).set (n - 1 - j) (dg n m (n - 1 - j)) = digsTo n m (j + 1) := by
 apply List.ext_getElem?
 intro i
 unfold digsTo
 rw [List.getElem?_set]
 by_cases e : n - 1 - j = i
 · subst e
   have h1 : n - (j + 1) ≤ n - 1 - j := by omega
   have h2 : n - 1 - j < n := by omega
   simp [h2, h1]
   intro h5
   omega
 · rw [if_neg e]
   by_cases hi : i < n
   · simp only [List.getElem?_map, List.getElem?_range hi, Option.map_some]
     congr 1
     by_cases h3 : n - j ≤ i
     · rw [if_pos h3, if_pos (by omega)]
     · rw [if_neg h3, if_neg (by omega)]
   · simp [hi]
theorem digsTo_len (n : Nat) (m : Int) (j : Nat) : (digsTo n m j).length = n := by simp [digsTo]
theorem intsV_set (zs : List Int) (k : Nat) (z : Int) : intsV (zs.set k z) = (intsV zs).set k (.int .i64 z) := by simp [intsV, List.map_set]
theorem intsV_len (zs : List Int) : (intsV zs).length = zs.length := by simp [intsV]
theorem dg_last {n j : Nat} (m : Int) (h : j < n) : dg n m (n - 1 - j) = m / pw j % 10 := by
 unfold dg
 rw [show n - (n - 1 - j + 1) = j by omega]
theorem div_pw {m : Int} (j : Nat) : m / pw (j + 1) = m / pw j / 10 := by
 have hp := pw_pos j
 rw [pw_succ, Int.mul_comm, ← Int.ediv_ediv_of_nonneg (by omega)]
theorem made_ints (n : Nat) : (madeCells (Value.int .i64 0).cells (n * 1)).toList = intsV (List.replicate n 0) := by
 rw [Nat.mul_one, show (Value.int .i64 0).cells = #[.int .i64 0] from rfl, toList_madeCells_one]
 simp [intsV]
theorem power_at (z : Int) (n : Nat) (w : World) (hz : z = n) (hn : n ≤ 8) : Calls Try.prog 48 #[.int .i64 z] w fun e w' => e = .returned (.int .i64 (pw n)) ∧ w = w' := by
 subst hz
 exact power_any n w hn
theorem info_int : (Try.prog.info? 3).map (fun i => (i.zero, i.size, i.bytes)) = some (some (.int .i64 0), 1, 8) := by kernel_rfl
set_option maxRecDepth 100000 in
set_option maxHeartbeats 1000000 in
theorem digitsFor_any (u lo : Int) (A : Option Addr) (n c : Nat) (m : Int) (w : World) (hn : n ≤ 8) (m0 : 0 ≤ m) (m1 : m < 200000000) :
 Calls Try.prog 56 #[frV u lo A n c, .int .i64 m] w (RetSlice w 3 1 n (intsV (digs n m))) := by
 obtain ⟨i0, hi, hz0, hz1, hz2⟩ := info_parts info_int
 go_enter Try.func56, Try.ntmps56
 go_wp2_with (at_make; refine wpList_make_full _ rfl _ _ 26 rfl (w.heap.size + 1) 3 i0 _ 1 Try.underlying26 hi hz0 hz1 .i64 .i64 _ _ n rfl rfl rfl rfl (by rw [hz2]; omega) (by unfold maxLen; omega) (by simp) ?_; intro w0 hown0 hgrow0)
 rw [made_ints] at hown0
 have hs0 := (hown0.lt _ rfl).2
 simp at hs0
 have hb0 := Lib.hid ((ext_alloc (ext_refl w) (.cells #[.int .i64 u, .int .i64 lo, .slice A n c] 42)).grown hgrow0 (by simp) (fun _ h => by cases h))
 have ho0 := Lib.hid (show w0.ownsRow w.heap.size 3 1 (.slice (some ⟨w.heap.size + 1, 0, none⟩) n n) n (intsV (digsTo n m 0)) by rw [digsTo_zero]; rw [World.size_alloc] at hown0; exact own_base hown0 (Nat.le_succ _))
 clear hown0 hgrow0
 go_loopw [1, 6] (fun v i wr => ∃ (j : Nat) (z : Int), j ≤ n ∧ i = .int .i64 z ∧ z = (n : Int) - 1 - j ∧ v = .int .i64 (m / pw j) ∧ Hid (wr.ownsRow w.heap.size 3 1 (.slice (some ⟨w.heap.size + 1, 0, none⟩) n n) n (intsV (digsTo n m j))) ∧ Hid (Below w.heap.size w wr) ∧ w.heap.size + 1 < wr.heap.size) (fun _ i _ => (intOf i + 1).toNat)
 case atStart => exact ⟨0, _, Nat.zero_le _, rfl, by omega, by simp [pw_zero], ho0, hb0, by omega⟩
 case round =>
  obtain ⟨j, z, hj, rfl, hz, rfl, hor, hbr, hsr⟩ := hrel
  have hd0 : 0 ≤ m / pw j := Int.ediv_nonneg m0 (by have := pw_pos j; omega)
  have hd1 : m / pw j ≤ m := Int.ediv_le_self _ m0
  by_cases hlt : j < n
  · obtain ⟨k, hk⟩ : ∃ k : Nat, k = n - 1 - j := ⟨_, rfl⟩
    have hzk : z = (k : Int) := by omega
    have hkn : k < n := by omega
    subst hzk
    have hset := Lib.hid (digsTo_set (n := n) (j := j) m hlt)
    rw [← hk] at hset
    have hlast := Lib.hid (dg_last (n := n) m hlt)
    rw [← hk] at hlast
    have hdiv := Lib.hid (div_pw (m := m) j)
    obtain ⟨y, hy⟩ := list_split (l := digsTo n m j) (k := k) (by rw [digsTo_len]; exact hkn)
    have hcell : wr.cell? ⟨w.heap.size + 1, k, none⟩ = some (.int .i64 y) := by
     have := hor.out.cells rfl k (.int .i64 y) (intsV_get hy)
     rw [add_flat, Nat.zero_add] at this
     exact this
    have hfz := own_frozen hor.out k
    have HK := Lib.hid hk
    clear hy hk hz
    generalize m / pw j = M at *
    go_wp2
    go_roundw
    case rel =>
     refine ⟨j + 1, (k : Int) - 1, by omega, by go_num, by have := HK.out; omega, by rw [hdiv.out], Lib.hid ?_, Lib.hid (hbr.out.setCell (p := ⟨w.heap.size + 1, k, none⟩) (by show w.heap.size ≤ w.heap.size + 1; omega) _), by simpa [World.setCell] using hsr⟩
     have := (hor.out.stored k (.int .i64 (dg n m k))).1
     rw [← intsV_set, hset.out, hlast.out] at this
     exact this
    case measure => simp [intOf]
  · obtain rfl : j = n := by omega
    have hz' : z = -1 := by omega
    subst hz'
    have hall := Lib.hid (digsTo_all j m)
    clear hz
    go_wp2
    go_ret
    exact ⟨_, _, rfl, by rw [← hall.out]; exact hor.out, hbr.out⟩
/-- what can be taken -/
def canTB (l : List R2) (m : Int) : Bool := inB m 0 (numR l)
theorem canAdd_nonneg {l : List R2} {m : Int} (h : canB l m = true) : 0 ≤ m := by
 simp only [canB, Bool.and_eq_true, inB_iff] at h; exact h.1.1
theorem canAdd_bound {u lo : Int} {l : List R2} {m : Int} (hf : frB u lo l = true) (h : canB l m = true) : m < 200000000 := by
 simp only [canB, Bool.and_eq_true, inB_iff] at h
 have := pw_lt (frB_head hf).2.2.2
 omega
theorem canAdd_fit {l : List R2} {m : Int} (h : canB l m = true) : numD (dsOf l) + m < pw (dsOf l).length := by
 simp only [canB, Bool.and_eq_true, inB_iff] at h
 rw [dsOf_len]
 have : numR l = numD (dsOf l) := rfl
 omega
theorem canTake_nonneg {l : List R2} {m : Int} (h : canTB l m = true) : 0 ≤ m := by
 simp only [canTB, inB_iff] at h; exact h.1
theorem canTake_bound {u lo : Int} {l : List R2} {m : Int} (hf : frB u lo l = true) (h : canTB l m = true) : m < 200000000 := by
 simp only [canTB, inB_iff] at h
 have := numR_bounds hf l.length
 rw [numR_all l _ (Nat.le_refl _)] at this
 omega
theorem canTake_fit {l : List R2} {m : Int} (h : canTB l m = true) : m ≤ numD (dsOf l) := by
 simp only [canTB, inB_iff] at h; exact h.2
theorem addS_ask : ∀ (r : Nat) (d : Int) (s : WS), s.ask ≤ (addS r d s).ask ∧ (addS r d s).ask ≤ s.ask + r := by
 intro r
 induction r with
 | zero => intro d s; simp [addS]
 | succ r ih =>
   intro d s
   by_cases h : 0 < d
   · rw [addS_pos s h]
     have := ih ((s.ds.getD r 0 + d) / 10) ⟨s.ds.set r ((s.ds.getD r 0 + d) % 10), s.ms ++ turnM r (s.ds.getD r 0) ((s.ds.getD r 0 + d) % 10), s.ask + if 0 < (s.ds.getD r 0 + d) / 10 then 1 else 0⟩
     dsimp only at this
     split at this <;> split <;> omega
   · rw [addS_none s h]; omega
theorem takeS_ask : ∀ (r : Nat) (d : Int) (s : WS), s.ask ≤ (takeS r d s).ask ∧ (takeS r d s).ask ≤ s.ask + r := by
 intro r
 induction r with
 | zero => intro d s; simp [takeS]
 | succ r ih =>
   intro d s
   by_cases h : 0 < d
   · by_cases hx : d ≤ s.ds.getD r 0
     · rw [takeS_in s h hx]; dsimp only; omega
     · rw [takeS_left s h hx]
       have := ih 1 ⟨s.ds.set r (s.ds.getD r 0 - d + 10), s.ms ++ turnM r (s.ds.getD r 0) (s.ds.getD r 0 - d + 10), s.ask + 1⟩
       dsimp only at this
       omega
   · rw [takeS_none s h]; omega
theorem addN_ask (n : Nat) (m : Int) (s : WS) (k : Nat) (hk : k ≤ 8) : s.ask ≤ (addN n m s k).ask ∧ (addN n m s k).ask ≤ s.ask + 8 * k := by
 induction k with
 | zero => simp [addN]
 | succ k ih => rw [addN]; have := ih (by omega); have := addS_ask (k + 1) (dg n m k) (addN n m s k); omega
theorem takeN_ask (n : Nat) (m : Int) (s : WS) (k : Nat) (hk : k ≤ 8) : s.ask ≤ (takeN n m s k).ask ∧ (takeN n m s k).ask ≤ s.ask + 8 * k := by
 induction k with
 | zero => simp [takeN]
 | succ k ih => rw [takeN]; have := ih (by omega); have := takeS_ask (k + 1) (dg n m k) (takeN n m s k); omega
/-- a digit that can be added, taken -/
def addDigitB (u lo : Int) (l : List R2) (rod d : Int) : Bool := goodB u lo l && inB rod 0 ((l.length : Int) - 1) && inB d 0 9 && canB l (d * pw (l.length - (rod.toNat + 1)))
def takeDigitB (u lo : Int) (l : List R2) (rod d : Int) : Bool := goodB u lo l && inB rod 0 ((l.length : Int) - 1) && inB d 0 9 && canTB l (d * pw (l.length - (rod.toNat + 1)))
theorem within_b (n lo hi : Int) (b : Bool) (w : World) (hb : inB n lo hi = b) :
 Calls Try.prog 51 #[.int .i64 n, .int .i64 lo, .int .i64 hi] w fun e w' => e = .returned (.bool b) ∧ Below w.heap.size w w' := by
 subst hb
 exact (inB_within n lo hi w).mono fun e w' ⟨h, hw⟩ => ⟨h, by rw [← hw]; exact ext_refl _⟩
theorem canAdd_b (u lo : Int) (A : Option Addr) (n c : Nat) (l : List R2) (m : Int) (b : Bool) (w : World) (hf : frB u lo l = true) (h : Reads w w.heap.size 2 A n (rowsV2 l)) (hb : canB l m = b) :
 Calls Try.prog 55 #[frV u lo A n c, .int .i64 m] w fun e w' => e = .returned (.bool b) ∧ Below w.heap.size w w' := by
 subst hb
 exact canAdd_any u lo A n c l m w hf h
end Go.Proofs.Ytfechhacmkajdaa
namespace Go.Proofs.Ytfechhacmkajdaa
open Go.RowKit
set_option linter.unusedVariables false
set_option linter.unusedSimpArgs false
theorem addNumber_no (u lo : Int) (A : Option Addr) (n c : Nat) (l : List R2) (m : Int) (w : World) (hn : n ≤ 1048576) (h : Reads w w.heap.size 2 A n (rowsV2 l)) (hg : (goodB u lo l && canB l m) = false) :
 Calls Try.prog 34 #[frV u lo A n c, .int .i64 m] w (RetV (.tuple #[.pointer none, .bool false]) w) := by
 have H := Lib.hid h
 clear h
 cases hgd : goodB u lo l
 · have hgd := Lib.hid hgd
   have hg := Lib.hid hg
   go_enter Try.func34, Try.ntmps34
   go_wp2_with fail
   refine (begin_no u lo A n c l _ hn (rdx H.out (ext_alloc (ext_refl w) _)) hgd.out).mono ?_
   rintro e w1 ⟨rfl, hb1⟩
   go_wp2
   go_ret2
   exact ⟨rfl, (by repeat (first | exact ext_refl _ | assumption | refine ext_alloc ?_ _ | refine ext_drew ?_ | refine ext_drewN ?_ _ | refine ext_set ?_ (by simp <;> omega) _ | refine ext_trans ?_ (by assumption)))⟩
 · have hcb : canB l m = false := by simpa [hgd] using hg
   have hf : frB u lo l = true := by simp only [goodB, Bool.and_eq_true] at hgd; exact hgd.1
   have hgd := Lib.hid hgd
   have hf := Lib.hid hf
   have hg := Lib.hid hg
   have hcb := Lib.hid hcb
   go_enter Try.func34, Try.ntmps34
   go_wp2_with fail
   refine (begin_yes u lo A n c l _ hn (rdx H.out (ext_alloc (ext_refl w) _)) hgd.out).mono ?_
   rintro e w1 ⟨g, rfl, hW, hb1⟩
   have hb2 := Lib.hid (ext_trans (ext_alloc (ext_refl w) _) hb1)
   have BF1 := (Blk.born w #[.int .i64 u, .int .i64 lo, .slice A n c] 42 rfl).ext hb1
   obtain ⟨a0, a1, a2⟩ := BF1.q3
   clear hb1 BF1 hW
   go_wp2_with fail
   refine (canAdd_b u lo A n c l m _ _ hf.out (rdx H.out hb2.out) hcb.out).mono ?_
   rintro e w3 ⟨rfl, hb3⟩
   go_wp2
   go_ret2
   exact ⟨rfl, ext_trans hb2.out hb3⟩
set_option maxRecDepth 100000 in
set_option maxHeartbeats 1000000 in
theorem addNumber_yes (u lo : Int) (A : Option Addr) (n c : Nat) (l : List R2) (m : Int) (w : World) (hn : n ≤ 1048576) (h : Reads w w.heap.size 2 A n (rowsV2 l)) (hg : (goodB u lo l && canB l m) = true) :
 Calls Try.prog 34 #[frV u lo A n c, .int .i64 m] w (RetWk w u lo (addN n m ⟨dsOf l, [], 0⟩ n)) := by
 have hl := rows_len2 h
 have hg' := hg
 simp only [Bool.and_eq_true] at hg'
 obtain ⟨hgd, hcb⟩ := hg'
 have hgd' := hgd
 simp only [goodB, Bool.and_eq_true] at hgd'
 obtain ⟨hf, hs⟩ := hgd'
 have hn8 := (frB_head hf).2.2.2
 rw [hl] at hn8
 have hwf := dsOf_WF hf hs
 have hdl : (dsOf l).length = n := by rw [dsOf_len, hl]
 have m0 : 0 ≤ m := canAdd_nonneg hcb
 have m1 : m < 200000000 := canAdd_bound hf hcb
 have FIT : ∀ k, k < n → AddFit (k + 1) (dg n m k) (addN n m ⟨dsOf l, [], 0⟩ k).ds := by
  intro k hk
  have := (addN_facts (s := ⟨dsOf l, [], 0⟩) (m := m) hwf m0 (canAdd_fit hcb) k (by show k ≤ (dsOf l).length; omega)).2 (by show k < (dsOf l).length; omega)
  rwa [show (WS.ds ⟨dsOf l, [], 0⟩).length = n from hdl] at this
 have FIT := Lib.hid FIT
 have LEN : ∀ k, (addN n m ⟨dsOf l, [], 0⟩ k).ds.length = n := fun k => by rw [addN_len]; exact hdl
 have LEN := Lib.hid LEN
 have ASK : ∀ k, k ≤ 8 → 0 ≤ (addN n m ⟨dsOf l, [], 0⟩ k).ask ∧ (addN n m ⟨dsOf l, [], 0⟩ k).ask ≤ 8 * k := fun k hk => by have := addN_ask n m ⟨dsOf l, [], 0⟩ k hk; simpa using this
 have ASK := Lib.hid ASK
 have hgd := Lib.hid hgd
 have hcb := Lib.hid hcb
 have hf := Lib.hid hf
 have H := Lib.hid h
 have hl := Lib.hid hl
 clear h hg hs hwf hdl
 go_enter Try.func34, Try.ntmps34
 go_wp2_with fail
 refine (begin_yes u lo A n c l _ hn (rdx H.out (ext_alloc (ext_refl w) _)) hgd.out).mono ?_
 rintro e w1 ⟨g, rfl, hW, hb1⟩
 have hb2 := Lib.hid (ext_trans (ext_alloc (ext_refl w) _) hb1)
 have BF1 := Lib.hid ((Blk.born w #[.int .i64 u, .int .i64 lo, .slice A n c] 42 rfl).ext hb1)
 have hW1 := Lib.hid (hW.mono (B' := w.heap.size) (by simp))
 obtain ⟨a0, a1, a2⟩ := BF1.out.q3
 clear hb1 hW
 go_wp2_with fail
 refine (canAdd_b u lo A n c l m _ _ hf.out (rdx H.out hb2.out) hcb.out).mono ?_
 rintro e w3 ⟨rfl, hb3⟩
 have hb4 := Lib.hid (ext_trans hb2.out hb3)
 have BF3 := Lib.hid (BF1.out.ext hb3)
 have hW3 := Lib.hid (hW1.out.ext hb3)
 obtain ⟨a0', a1', a2'⟩ := BF3.out.q3
 clear hb3 a0 a1 a2
 go_wp2_with fail
 refine (digitsFor_any u lo A n c m _ hn8 m0 m1).mono ?_
 rintro e w5 ⟨Ad, cd, rfl, hod, hb5⟩
 have hW5 := Lib.hid (hW3.out.ext hb5)
 have hb6 := Lib.hid (ext_trans hb4.out hb5)
 have hod := Lib.hid hod
 clear hb5 a0' a1' a2'
 go_wp2
 go_loopw [27] (fun i wr => ∃ k : Nat, k ≤ n ∧ i = .int .i64 k ∧ Hid (Wk wr w.heap.size g u lo (addN n m ⟨dsOf l, [], 0⟩ k)) ∧ Hid (wr.ownsRow w3.heap.size 3 1 (.slice Ad n cd) n (intsV (digs n m))) ∧ Hid (Below w.heap.size w wr)) (fun i _ => n - (intOf i).toNat)
 case atStart => exact ⟨0, Nat.zero_le _, rfl, hW5, hod, hb6⟩
 case round =>
  obtain ⟨k, hk, rfl, hWr, hor, hbr⟩ := hrel
  by_cases hlt : k < n
  · obtain ⟨b, o, hA, hbb, c0⟩ := ints_at (Reads.of_own hor.out) (digs_get m hlt)
    subst hA
    have hfit := Lib.hid (FIT.out k hlt)
    have hlen := LEN.out k
    have hask := ASK.out k (by omega)
    have hmsl := addN_msl n m ⟨dsOf l, [], 0⟩ k (by omega)
    have hms0 : (addN n m ⟨dsOf l, [], 0⟩ k).ms.length ≤ 900000 := by simp at hmsl; omega
    have hln8 : (addN n m ⟨dsOf l, [], 0⟩ k).ds.length ≤ 8 := by omega
    have hdg := dg_bounds n m k
    obtain ⟨h0, h1⟩ := hask
    have h2 : (addN n m ⟨dsOf l, [], 0⟩ k).ask ≤ 1000000 := by omega
    clear hlen hmsl
    go_wp2_with fail
    refine (add_any w.heap.size g u lo (addN n m ⟨dsOf l, [], 0⟩ k) k (dg n m k) _ hWr.out hfit.out hln8 hms0 h0 h2).mono ?_
    rintro e w7 ⟨rfl, hW7, hb7, hk7⟩
    have hW7 := Lib.hid hW7
    have ho7 := Lib.hid (hk7.own hor.out (by decide) (by decide) (by decide))
    have hb8 := Lib.hid (hbr.out.trans hb7)
    clear hb7 hk7
    go_wp2
    go_roundw
    case rel => exact ⟨k + 1, by omega, by go_num, hW7, ho7, hb8⟩
    case measure => simp [intOf]; omega
  · obtain rfl : k = n := by omega
    go_wp2
    go_ret2
    exact ⟨g, rfl, hWr.out, hbr.out⟩
end Go.Proofs.Ytfechhacmkajdaa
namespace Go.Proofs.Ytfechhacmkajdaa
open Go.RowKit
set_option linter.unusedVariables false
set_option linter.unusedSimpArgs false
/-- moves come back beside a bool -/
abbrev RetMv (w : World) (l : List R3) (ok : Bool) : Ending → World → Prop := RetSliceB w 93 3 l.length (rowsV3 l) ok
def addDms (u lo : Int) (l : List R2) (rod d : Int) : List R3 := if addDigitB u lo l rod d = true then (addS (rod.toNat + 1) d ⟨dsOf l, [], 0⟩).ms else []
def takeDms (u lo : Int) (l : List R2) (rod d : Int) : List R3 := if takeDigitB u lo l rod d = true then (takeS (rod.toNat + 1) d ⟨dsOf l, [], 0⟩).ms else []
def addNst (l : List R2) (m : Int) : WS := addN l.length m ⟨dsOf l, [], 0⟩ l.length
def takeNst (l : List R2) (m : Int) : WS := takeN l.length m ⟨dsOf l, [], 0⟩ l.length
def addNok (u lo : Int) (l : List R2) (m : Int) : Bool := goodB u lo l && canB l m
def takeNok (u lo : Int) (l : List R2) (m : Int) : Bool := goodB u lo l && canTB l m
def addNmok (u lo : Int) (l : List R2) (m : Int) : Bool := addNok u lo l m && decide ((addNst l m).ms.length ≤ 60)
def takeNmok (u lo : Int) (l : List R2) (m : Int) : Bool := takeNok u lo l m && decide ((takeNst l m).ms.length ≤ 60)
def addNms (u lo : Int) (l : List R2) (m : Int) : List R3 := if addNmok u lo l m = true then (addNst l m).ms else []
def takeNms (u lo : Int) (l : List R2) (m : Int) : List R3 := if takeNmok u lo l m = true then (takeNst l m).ms else []
end Go.Proofs.Ytfechhacmkajdaa
namespace Go.Proofs.Ytfechhacmkajdaa
open Go.RowKit
set_option linter.unusedVariables false
set_option linter.unusedSimpArgs false
theorem l2Standard_b (u lo : Int) (A : Option Addr) (n c : Nat) (l : List R2) (w : World) (b : Bool) (hn : n ≤ 1048576) (h : Reads w w.heap.size 2 A n (rowsV2 l)) (hb : goodB u lo l = b) :
 Calls Try.prog 72 #[frV u lo A n c] w (RetV (.bool b) w) := by subst hb; exact l2Standard_any u lo A n c l w hn h
theorem good_fr {u lo : Int} {l : List R2} (h : goodB u lo l = true) : frB u lo l = true := by simp only [goodB, Bool.and_eq_true] at h; exact h.1
theorem good_std {u lo : Int} {l : List R2} (h : goodB u lo l = true) : stdB l = true := by simp only [goodB, Bool.and_eq_true] at h; exact h.2
/-- what the reference asks of a number to be added is what the program asks -/
theorem canB_ref {u lo : Int} {l : List R2} {m : Int} (hf : frB u lo l = true) (m0 : 0 ≤ m) : canB l m = decide (numR l + m < pw l.length) := by
 have hb := numR_bounds hf l.length
 rw [numR_all l _ (Nat.le_refl _)] at hb
 rw [Bool.eq_iff_iff]
 simp only [canB, Bool.and_eq_true, inB_iff, decide_eq_true_eq]
 omega
theorem canTB_ref {l : List R2} {m : Int} (m0 : 0 ≤ m) : canTB l m = decide (m ≤ numR l) := by
 rw [Bool.eq_iff_iff]
 simp only [canTB, inB_iff, decide_eq_true_eq]
 omega
set_option maxRecDepth 100000 in
theorem l6At_any (u lo : Int) (A : Option Addr) (n c r : Nat) (m : Int) (w : World) (hn : n ≤ 8) (hr : r < n) (m0 : 0 ≤ m) (m1 : m < 200000000) :
 Calls Try.prog 61 #[frV u lo A n c, .int .i64 m, .int .i64 (r : Int)] w fun e w' => e = .returned (.int .i64 (dg n m r)) ∧ Below w.heap.size w w' := by
 have hp0 := pw_pos (n - (r + 1))
 have hp1 := pw_lt (n := n - (r + 1)) (by omega)
 have hq0 : 0 ≤ m / pw (n - (r + 1)) := Int.ediv_nonneg m0 (by omega)
 have hq1 : m / pw (n - (r + 1)) ≤ m := Int.ediv_le_self _ m0
 have hne : ¬ pw (n - (r + 1)) = 0 := by omega
 have E := Lib.hid (show dg n m r = m / pw (n - (r + 1)) % 10 from rfl)
 go_enter Try.func61, Try.ntmps61
 go_wp2_with fail
 refine (l2Power_any _ (n - (r + 1)) _ (by omega) (by omega)).mono ?_
 rintro e w1 ⟨rfl, rfl⟩
 go_wp2
 go_ret
 exact ⟨ret_int (by rw [E.out]), (by repeat (first | exact ext_refl _ | assumption | refine ext_alloc ?_ _ | refine ext_drew ?_ | refine ext_drewN ?_ _ | refine ext_set ?_ (by simp <;> omega) _ | refine ext_trans ?_ (by assumption)))⟩
theorem l6Can_any (u lo : Int) (A : Option Addr) (n c : Nat) (l : List R2) (m : Int) (w : World) (hn : n ≤ 1048576) (h : Reads w w.heap.size 2 A n (rowsV2 l)) :
 Calls Try.prog 59 #[frV u lo A n c, .int .i64 m] w (RetV (.bool (addNok u lo l m)) w) := by
 have hl := rows_len2 h
 have H := Lib.hid h
 clear h
 cases hgd : goodB u lo l
 · rw [show addNok u lo l m = false by simp [addNok, hgd]]
   have hgd := Lib.hid hgd
   have hl := Lib.hid hl
   go_enter Try.func59, Try.ntmps59
   go_wp2
   (refine wp_region_later (by kernel_rfl) (by kernel_rfl) ?_; (repeat (go_big_quiet_step (first | (go_at_call 72; with_reducible exact Calls.later_of (l2Standard_b u lo A n c l _ _ hn (rdx (rdx H.out (ext_alloc (ext_refl w) _)) (Later.h _)) hgd.out))))); refine wpQuiet_nil ?_; intro w1 hw1; obtain ⟨⟨wl, hbL⟩, hw1'⟩ := hw1; simp only at hw1'; subst hw1'; obtain ⟨hcL, hfL⟩ := bcell hbL)
   go_wp2
   go_ret
   exact ⟨rfl, (by repeat (first | exact ext_refl _ | assumption | refine ext_alloc ?_ _ | refine ext_drew ?_ | refine ext_drewN ?_ _ | refine ext_set ?_ (by simp <;> omega) _ | refine ext_trans ?_ (by assumption)))⟩
 have hf := good_fr hgd
 have hn8 := (frB_head hf).2.2.2
 rw [hl] at hn8
 have hp0 := pw_pos n
 have hp1 := pw_lt hn8
 cases hb : inB m 0 (pw n - 1)
 · rw [show addNok u lo l m = false by simp [addNok, canB, hl, hb]]
   have hgd := Lib.hid hgd
   have hf := Lib.hid hf
   have hl := Lib.hid hl
   go_enter Try.func59, Try.ntmps59
   go_wp2
   (refine wp_region_later (by kernel_rfl) (by kernel_rfl) ?_; (repeat (go_big_quiet_step (first | (go_at_call 72; with_reducible exact Calls.later_of (l2Standard_b u lo A n c l _ _ hn (rdx (rdx H.out (ext_alloc (ext_refl w) _)) (Later.h _)) hgd.out)) | (go_at_call 31; with_reducible exact Calls.later_same (l2Power_any n n _ rfl hn8)) | (go_at_call 66; with_reducible exact Calls.later_of (l1In_b _ _ _ _ _ hb))))); refine wpQuiet_nil ?_; intro w1 hw1; obtain ⟨⟨wl, hbL⟩, hw1'⟩ := hw1; simp only at hw1'; subst hw1'; obtain ⟨hcL, hfL⟩ := bcell hbL)
   go_wp2
   go_ret
   exact ⟨rfl, (by repeat (first | exact ext_refl _ | assumption | refine ext_alloc ?_ _ | refine ext_drew ?_ | refine ext_drewN ?_ _ | refine ext_set ?_ (by simp <;> omega) _ | refine ext_trans ?_ (by assumption)))⟩
 obtain ⟨m0, m1⟩ := inB_iff.1 hb
 have hnb := numR_bounds hf l.length
 rw [numR_all l _ (Nat.le_refl _)] at hnb
 obtain ⟨n0, n1⟩ := hnb
 have E := Lib.hid (show addNok u lo l m = decide (numR l + m < pw n) by rw [addNok, hgd, canB_ref hf m0, hl]; rfl)
 have hgd := Lib.hid hgd
 have hf := Lib.hid hf
 have hl := Lib.hid hl
 go_enter Try.func59, Try.ntmps59
 go_wp2
 (refine wp_region_later (by kernel_rfl) (by kernel_rfl) ?_; (repeat (go_big_quiet_step (first | (go_at_call 72; with_reducible exact Calls.later_of (l2Standard_b u lo A n c l _ _ hn (rdx (rdx H.out (ext_alloc (ext_refl w) _)) (Later.h _)) hgd.out)) | (go_at_call 31; with_reducible exact Calls.later_same (l2Power_any n n _ rfl hn8)) | (go_at_call 66; with_reducible exact Calls.later_of (l1In_b _ _ _ _ _ hb)) | (go_at_call 73; with_reducible exact Calls.later_of (l2Number_any u lo A n c l _ hf.out (rdx (rdx H.out (ext_alloc (ext_refl w) _)) (Later.h _))))))); refine wpQuiet_nil ?_; intro w1 hw1; obtain ⟨⟨wl, hbL⟩, hw1'⟩ := hw1; simp only at hw1'; subst hw1'; obtain ⟨hcL, hfL⟩ := bcell hbL)
 go_wp2
 go_ret
 exact ⟨ret_bool (by rw [E.out]), (by repeat (first | exact ext_refl _ | assumption | refine ext_alloc ?_ _ | refine ext_drew ?_ | refine ext_drewN ?_ _ | refine ext_set ?_ (by simp <;> omega) _ | refine ext_trans ?_ (by assumption)))⟩
end Go.Proofs.Ytfechhacmkajdaa
namespace Go.Proofs.Ytfechhacmkajdaa
open Go.RowKit
set_option linter.unusedVariables false
set_option linter.unusedSimpArgs false
theorem turnM_cases (r : Nat) (x v : Int) : turnM r x v = (if v / 5 - x / 5 = 0 then [] else [⟨(r : Int), 0, v / 5 - x / 5⟩]) ++ (if v % 5 - x % 5 = 0 then [] else [⟨(r : Int), 1, v % 5 - x % 5⟩]) := rfl
set_option maxRecDepth 100000 in
set_option maxHeartbeats 1000000 in
theorem l6Turn_any (r : Nat) (x v : Int) (w : World) (h0 : 0 ≤ x) (h9 : x ≤ 9) (v0 : 0 ≤ v) (v9 : v ≤ 9) :
 Calls Try.prog 74 #[.int .i64 (r : Int), .int .i64 x, .int .i64 v] w (RetSlice w 93 3 (turnM r x v).length (rowsV3 (turnM r x v))) := by
 obtain ⟨i0, hi, hz0, hz1, hz2⟩ := info_parts info_mv
 have ho := own_lit_at w 93 3 (H := w.heap.size) (B := w.heap.size) rfl (Nat.le_refl _)
 have x1 : 0 ≤ x / 5 := by omega
 have x2 : x / 5 ≤ 1 := by omega
 have y1 : 0 ≤ v / 5 := by omega
 have y2 : v / 5 ≤ 1 := by omega
 have x3 : 0 ≤ x % 5 := by omega
 have x4 : x % 5 ≤ 4 := by omega
 have y3 : 0 ≤ v % 5 := by omega
 have y4 : v % 5 ≤ 4 := by omega
 have e5 : v / 5 = v / 5 := rfl
 have m1 : 0 + 1 ≤ maxLen := by unfold maxLen; omega
 have m2 : (0 + 1) * 24 ≤ 140737488355328 := by omega
 have m3 : 0 + 1 + 1 ≤ maxLen := by unfold maxLen; omega
 have m4 : (0 + 1 + 1) * 24 ≤ 140737488355328 := by omega
 clear e5
 by_cases h1 : v / 5 - x / 5 = 0
 · have d1 : (v / 5 - x / 5 != 0) = false := by simp [h1]
   have d1' : (v / 5 - x / 5 == 0) = true := by simp [h1]
   by_cases h2 : v % 5 - x % 5 = 0
   · have d2 : (v % 5 - x % 5 != 0) = false := by simp [h2]
     have d2' : (v % 5 - x % 5 == 0) = true := by simp [h2]
     have e : turnM r x v = [] := by rw [turnM_cases, if_pos h1, if_pos h2]; rfl
     rw [e]
     have H1 := Lib.hid h1
     have H2 := Lib.hid h2
     clear h1 h2 e
     go_enter Try.func74, Try.ntmps74
     go_wp2
     go_ret
     exact ⟨_, _, rfl, ho, ext_alloc (ext_refl _) _⟩
   · have d2 : (v % 5 - x % 5 != 0) = true := by simp [h2]
     have d2' : (v % 5 - x % 5 == 0) = false := by simp [h2]
     have e : turnM r x v = [⟨(r : Int), 1, v % 5 - x % 5⟩] := by rw [turnM_cases, if_pos h1, if_neg h2]; rfl
     rw [e]
     have H1 := Lib.hid h1
     have H2 := Lib.hid h2
     clear h1 h2 e
     go_enter Try.func74, Try.ntmps74
     go_wp2_with (at_builtin; refine wpList_append_own _ rfl (.tmp 31) (.tmp 35) 60 rfl w.heap.size 93 i0 _ 3 24 Try.underlying60 hi hz0 hz1 hz2 rfl (by decide) _ _ _ rfl (ho.alloc _) _ 1 1 [.int .i64 (r : Int), .int .i64 1, .int .i64 (v % 5 - x % 5)] rfl rfl (cells_new_at _ [.int .i64 (r : Int), .int .i64 1, .int .i64 (v % 5 - x % 5)] _ (by simp)) (by simp [Value.oneCell']) m1 m2 (by simp; omega) ?_; intro v' w2 hown2 hgrow _)
     obtain ⟨A', c', rfl⟩ := own_shape hown2
     have hb := Lib.hid (((ext_alloc (ext_alloc (ext_refl w) _) _)).trans (below_row (ho.alloc _) hgrow (by simp; omega)))
     have hown2 := Lib.hid hown2
     go_ret
     exact ⟨A', c', rfl, hown2.out, hb.out⟩
 · have d1 : (v / 5 - x / 5 != 0) = true := by simp [h1]
   have d1' : (v / 5 - x / 5 == 0) = false := by simp [h1]
   by_cases h2 : v % 5 - x % 5 = 0
   · have d2 : (v % 5 - x % 5 != 0) = false := by simp [h2]
     have d2' : (v % 5 - x % 5 == 0) = true := by simp [h2]
     have e : turnM r x v = [⟨(r : Int), 0, v / 5 - x / 5⟩] := by rw [turnM_cases, if_neg h1, if_pos h2]; rfl
     rw [e]
     have H1 := Lib.hid h1
     have H2 := Lib.hid h2
     clear h1 h2 e
     go_enter Try.func74, Try.ntmps74
     go_wp2_with (at_builtin; refine wpList_append_own _ rfl (.tmp 18) (.tmp 22) 60 rfl w.heap.size 93 i0 _ 3 24 Try.underlying60 hi hz0 hz1 hz2 rfl (by decide) _ _ _ rfl (ho.alloc _) _ 1 1 [.int .i64 (r : Int), .int .i64 0, .int .i64 (v / 5 - x / 5)] rfl rfl (cells_new_at _ [.int .i64 (r : Int), .int .i64 0, .int .i64 (v / 5 - x / 5)] _ (by simp)) (by simp [Value.oneCell']) m1 m2 (by simp; omega) ?_; intro v' w2 hown2 hgrow _)
     obtain ⟨A', c', rfl⟩ := own_shape hown2
     have hb := Lib.hid (((ext_alloc (ext_alloc (ext_refl w) _) _)).trans (below_row (ho.alloc _) hgrow (by simp; omega)))
     have hown2 := Lib.hid hown2
     go_ret
     exact ⟨A', c', rfl, hown2.out, hb.out⟩
   · have d2 : (v % 5 - x % 5 != 0) = true := by simp [h2]
     have d2' : (v % 5 - x % 5 == 0) = false := by simp [h2]
     have e : turnM r x v = [⟨(r : Int), 0, v / 5 - x / 5⟩, ⟨(r : Int), 1, v % 5 - x % 5⟩] := by rw [turnM_cases, if_neg h1, if_neg h2]; rfl
     rw [e]
     have H1 := Lib.hid h1
     have H2 := Lib.hid h2
     clear h1 h2 e
     go_enter Try.func74, Try.ntmps74
     go_wp2_with (first
      | (at_builtin; refine wpList_append_own _ rfl (.tmp 18) (.tmp 22) 60 rfl w.heap.size 93 i0 _ 3 24 Try.underlying60 hi hz0 hz1 hz2 rfl (by decide) _ _ _ rfl (ho.alloc _) _ 1 1 [.int .i64 (r : Int), .int .i64 0, .int .i64 (v / 5 - x / 5)] rfl rfl (cells_new_at _ [.int .i64 (r : Int), .int .i64 0, .int .i64 (v / 5 - x / 5)] _ (by simp)) (by simp [Value.oneCell']) m1 m2 (by simp; omega) ?_; intro v' w2 hown2 hgrow _; have hb := Lib.hid (((ext_alloc (ext_alloc (ext_refl w) _) _)).trans (below_row (ho.alloc _) hgrow (by simp; omega))))
      | (at_builtin; refine wpList_append_own _ rfl (.tmp 31) (.tmp 35) 60 rfl w.heap.size 93 i0 _ 3 24 Try.underlying60 hi hz0 hz1 hz2 rfl (by decide) _ _ _ rfl (hown2.alloc _) _ 1 1 [.int .i64 (r : Int), .int .i64 1, .int .i64 (v % 5 - x % 5)] rfl rfl (cells_new_at _ [.int .i64 (r : Int), .int .i64 1, .int .i64 (v % 5 - x % 5)] _ (by simp)) (by simp [Value.oneCell']) m3 m4 (by have := hb.out.size; simp; omega) ?_; intro v'' w3 hown3 hgrow3 _))
     obtain ⟨A', c', rfl⟩ := own_shape hown3
     have hb3 := Lib.hid ((ext_alloc hb.out _).trans (below_row (hown2.alloc _) hgrow3 (by have := hb.out.size; simp; omega)))
     have hown3 := Lib.hid hown3
     go_ret
     exact ⟨A', c', rfl, hown3.out, hb3.out⟩
/-- moves and a frame of their own come back -/
def RetMF (w : World) (u lo : Int) (s : WS) (e : Ending) (w' : World) : Prop :=
 ∃ (A : Option Addr) (c' h c : Nat), e = .returned (.tuple #[.slice A s.ms.length c', frV u lo (some ⟨h, 0, none⟩) s.ds.length c]) ∧ w'.ownsRow w.heap.size 93 3 (.slice A s.ms.length c') s.ms.length (rowsV3 s.ms) ∧
  w'.ownsRow w.heap.size 54 2 (.slice (some ⟨h, 0, none⟩) s.ds.length c) s.ds.length (rowsV2 (rodsD s.ds)) ∧ Below w.heap.size w w'
end Go.Proofs.Ytfechhacmkajdaa
namespace Go.Proofs.Ytfechhacmkajdaa
open Go.RowKit
set_option linter.unusedVariables false
set_option linter.unusedSimpArgs false
theorem addDms_len (u lo : Int) (l : List R2) (rod d : Int) : (addDms u lo l rod d).length ≤ 16 := by
 unfold addDms
 split
 · rename_i h
   unfold addDigitB at h
   simp only [Bool.and_eq_true] at h
   have hn := (frB_head (good_fr h.1.1.1)).2.2.2
   have hr := inB_iff.1 h.1.1.2
   have := addS_msl (rod.toNat + 1) d ⟨dsOf l, [], 0⟩
   simp at this
   omega
 · simp
theorem takeDms_len (u lo : Int) (l : List R2) (rod d : Int) : (takeDms u lo l rod d).length ≤ 16 := by
 unfold takeDms
 split
 · rename_i h
   unfold takeDigitB at h
   simp only [Bool.and_eq_true] at h
   have hn := (frB_head (good_fr h.1.1.1)).2.2.2
   have hr := inB_iff.1 h.1.1.2
   have := takeS_msl (rod.toNat + 1) d ⟨dsOf l, [], 0⟩
   simp at this
   omega
 · simp
theorem addNms_len (u lo : Int) (l : List R2) (m : Int) : (addNms u lo l m).length ≤ 60 := by
 unfold addNms
 split
 · rename_i h
   unfold addNmok at h
   simp only [Bool.and_eq_true, decide_eq_true_eq] at h
   exact h.2
 · simp
theorem takeNms_len (u lo : Int) (l : List R2) (m : Int) : (takeNms u lo l m).length ≤ 60 := by
 unfold takeNms
 split
 · rename_i h
   unfold takeNmok at h
   simp only [Bool.and_eq_true, decide_eq_true_eq] at h
   exact h.2
 · simp
end Go.Proofs.Ytfechhacmkajdaa
namespace Go.Proofs.Ytfechhacmkajdaa
open Go.RowKit
set_option linter.unusedVariables false
set_option linter.unusedSimpArgs false
/-- a move of beads -/
def okM (m : R3) : Bool := inB m.a 0 7 && inB m.b 0 1 && inB m.c (-5) 5 && (m.c != 0)
def mvsB (ms : List R3) : Bool := decide (ms.length ≤ 60) && ms.all okM
def rcdB (ms : List R3) : Bool := decide (ms.length ≤ 12) && mvsB ms
theorem okM_iff {m : R3} : okM m = true ↔ (0 ≤ m.a ∧ m.a ≤ 7) ∧ (0 ≤ m.b ∧ m.b ≤ 1) ∧ (-5 ≤ m.c ∧ m.c ≤ 5) ∧ m.c ≠ 0 := by
 simp only [okM, Bool.and_eq_true, inB_iff, bne_iff_ne]
 exact ⟨fun ⟨⟨⟨a, b⟩, c⟩, d⟩ => ⟨a, b, c, d⟩, fun ⟨a, b, c, d⟩ => ⟨⟨⟨a, b⟩, c⟩, d⟩⟩
theorem all_snoc3 {l : List R3} {k : Nat} {r : R3} {p : R3 → Bool} (h : (l.take k).all p = true) (hr : l[k]? = some r) (hp : p r = true) : (l.take (k + 1)).all p = true := by
 rw [List.take_add_one, hr]
 simp [h, hp]
theorem all_bad3 {l : List R3} {k : Nat} {r : R3} {p : R3 → Bool} (hr : l[k]? = some r) (hp : p r = false) : l.all p = false := by
 rw [List.all_eq_false]
 exact ⟨r, List.mem_of_getElem? hr, by simp [hp]⟩
theorem all_whole3 {l : List R3} {k : Nat} {p : R3 → Bool} (h : (l.take k).all p = true) (hk : l.length ≤ k) : l.all p = true := by rwa [List.take_of_length_le hk] at h
theorem within_c (n lo hi : Int) (b : Bool) (w : World) (hb : inB n lo hi = b) :
 Calls Try.prog 51 #[.int .i64 n, .int .i64 lo, .int .i64 hi] w fun e w' => e = .returned (.bool b) ∧ w = w' := by
 subst hb; exact inB_within n lo hi w
theorem l1In_c (n lo hi : Int) (b : Bool) (w : World) (hb : inB n lo hi = b) :
 Calls Try.prog 66 #[.int .i64 n, .int .i64 lo, .int .i64 hi] w fun e w' => e = .returned (.bool b) ∧ w = w' := by
 subst hb; exact inB_l1In n lo hi w
/-- how many beads -/
def ab (z : Int) : Int := if z < 0 then -z else z
theorem ab_le {z : Int} (h : -1000 ≤ z ∧ z ≤ 1000) : 0 ≤ ab z ∧ ab z ≤ 1000 := by unfold ab; split <;> omega
def beads (ms : List R3) : Int := ms.foldl (fun s m => s + ab m.c) 0
theorem beads_take {ms : List R3} {k : Nat} {m : R3} (h : ms[k]? = some m) : beads (ms.take (k + 1)) = beads (ms.take k) + ab m.c := by
 unfold beads
 rw [List.take_add_one, h]
 simp [List.foldl_append]
theorem beads_all (ms : List R3) (k : Nat) (h : ms.length ≤ k) : beads (ms.take k) = beads ms := by rw [List.take_of_length_le h]
def smallM (ms : List R3) : Prop := ∀ m ∈ ms, -1000 ≤ m.c ∧ m.c ≤ 1000
theorem beads_bound {ms : List R3} (h : smallM ms) (k : Nat) : 0 ≤ beads (ms.take k) ∧ beads (ms.take k) ≤ 1000 * k := by
 induction k with
 | zero => simp [beads]
 | succ k ih =>
   rcases hm : ms[k]? with _ | m
   · rw [List.getElem?_eq_none_iff] at hm
     rw [List.take_of_length_le (by omega)]
     rw [List.take_of_length_le hm] at ih
     omega
   · rw [beads_take hm]
     have := ab_le (h m (List.mem_of_getElem? hm))
     omega
end Go.Proofs.Ytfechhacmkajdaa
namespace Go.Proofs.Ytfechhacmkajdaa
open Go.RowKit
set_option linter.unusedVariables false
set_option linter.unusedSimpArgs false
def bump (r : R2) (m : R3) : R2 := if m.b = 0 then ⟨r.a + m.c, r.b⟩ else ⟨r.a, r.b + m.c⟩
def mvL (l : List R2) (m : R3) : List R2 := l.set m.a.toNat (bump (l.getD m.a.toNat ⟨0, 0⟩) m)
def mvB (u lo : Int) (l : List R2) (m : R3) : Bool := decide (m.a < l.length) && frB u lo (mvL l m)
def mvF (u lo : Int) (l : List R2) (m : R3) : Int × Int × List R2 := if mvB u lo l m = true then (u, lo, mvL l m) else (0, 0, [])
theorem mvL_len (l : List R2) (m : R3) : (mvL l m).length = l.length := by simp [mvL]
theorem set_same {α : Type} {xs : List α} {i : Nat} {v : α} (h : xs[i]? = some v) : xs.set i v = xs := by
 obtain ⟨hi, e⟩ := List.getElem?_eq_some_iff.1 h
 rw [← e]
 exact List.set_getElem_self hi
theorem rowsV2_set0 {l : List R2} {i : Nat} {x : R2} (h : l[i]? = some x) (z : Int) : rowsV2 (l.set i ⟨z, x.b⟩) = (rowsV2 l).set (i * 2) (.int .i64 z) := by
 have hi : i < l.length := (List.getElem?_eq_some_iff.1 h).1
 rw [rowsV2_set _ _ _ hi]
 refine set_same ?_
 rw [List.getElem?_set_ne (by omega)]
 exact (rowsV_get2 h).2
theorem rowsV2_set1 {l : List R2} {i : Nat} {x : R2} (h : l[i]? = some x) (z : Int) : rowsV2 (l.set i ⟨x.a, z⟩) = (rowsV2 l).set (i * 2 + 1) (.int .i64 z) := by
 have hi : i < l.length := (List.getElem?_eq_some_iff.1 h).1
 rw [rowsV2_set _ _ _ hi]
 dsimp only
 rw [set_same (xs := rowsV2 l) (i := i * 2) (by simpa using (rowsV_get2 h).1)]
end Go.Proofs.Ytfechhacmkajdaa
namespace Go.Proofs.Ytfechhacmkajdaa
open Go.RowKit
set_option linter.unusedVariables false
set_option linter.unusedSimpArgs false
end Go.Proofs.Ytfechhacmkajdaa
namespace Go.Proofs.Ytfechhacmkajdaa
open Go.RowKit
set_option linter.unusedVariables false
set_option linter.unusedSimpArgs false
def playS (u lo : Int) (l : List R2) (ms : List R3) : Option (List R2) := ms.foldl (fun o m => o.bind fun x => if mvB u lo x m = true then some (mvL x m) else none) (some l)
def playF (u lo : Int) (l : List R2) (ms : List R3) : Int × Int × List R2 := match playS u lo l ms with | some x => (u, lo, x) | none => (0, 0, [])
theorem play_take {u lo : Int} {l : List R2} {ms : List R3} {k : Nat} {x : List R2} {m : R3} (h : playS u lo l (ms.take k) = some x) (hm : ms[k]? = some m) : playS u lo l (ms.take (k + 1)) = if mvB u lo x m = true then some (mvL x m) else none := by
 unfold playS at h ⊢
 rw [List.take_add_one, hm]
 simp [List.foldl_append, h]
theorem fold_none {u lo : Int} (ms : List R3) : ms.foldl (fun (o : Option (List R2)) m => o.bind fun x => if mvB u lo x m = true then some (mvL x m) else none) none = none := by
 induction ms with
 | nil => rfl
 | cons m ms ih => exact ih
theorem play_none {u lo : Int} {l : List R2} {ms : List R3} {k : Nat} (h : playS u lo l (ms.take k) = none) : playF u lo l ms = (0, 0, []) ∧ (playS u lo l ms).isSome = false := by
 have e : playS u lo l ms = none := by
  unfold playS at h ⊢
  conv => lhs; rw [← List.take_append_drop k ms]
  rw [List.foldl_append, h]
  exact fold_none _
 unfold playF
 rw [e]
 exact ⟨rfl, rfl⟩
theorem mvB_fr {u lo : Int} {x : List R2} {m : R3} (h : mvB u lo x m = true) : frB u lo (mvL x m) = true := by
 unfold mvB at h
 simp only [Bool.and_eq_true] at h
 exact h.2
end Go.Proofs.Ytfechhacmkajdaa
namespace Go.Proofs.Ytfechhacmkajdaa
open Go.RowKit
set_option linter.unusedVariables false
set_option linter.unusedSimpArgs false
theorem play_app (u lo : Int) (l : List R2) (ms ns : List R3) : playS u lo l (ms ++ ns) = (playS u lo l ms).bind fun x => playS u lo x ns := by
 unfold playS
 rw [List.foldl_append]
 cases h : ms.foldl (fun (o : Option (List R2)) m => o.bind fun x => if mvB u lo x m = true then some (mvL x m) else none) (some l) with
 | none => exact fold_none ns
 | some x => rfl
theorem play_one {u lo : Int} {l : List R2} {m : R3} (h : mvB u lo l m = true) : playS u lo l [m] = some (mvL l m) := by
 unfold playS
 simp [h]
theorem frB_set {u lo : Int} {l : List R2} {r : Nat} {x : R2} (h : frB u lo l = true) (hx : rodB u lo x = true) : frB u lo (l.set r x) = true := by
 simp only [frB, Bool.and_eq_true, List.all_eq_true] at h ⊢
 refine ⟨by rw [List.length_set]; exact h.1, fun y hy => ?_⟩
 rcases List.mem_or_eq_of_mem_set hy with hy | rfl
 · exact h.2 y hy
 · exact hx
theorem frB_rodsD {u lo : Int} {ds : List Int} (hh : headB u lo ds.length = true) (hw : WF ds) : frB u lo (rodsD ds) = true := by
 have h2 := hh
 simp only [headB, Bool.and_eq_true, inB_iff] at h2
 simp only [frB, Bool.and_eq_true, List.all_eq_true]
 refine ⟨by rw [rodsD_len]; exact hh, fun y hy => ?_⟩
 unfold rodsD at hy
 obtain ⟨d, hd, rfl⟩ := List.mem_map.1 hy
 have := hw d hd
 unfold rodB rodD
 simp only [Bool.and_eq_true, inB_iff]
 omega
theorem turn_up {u lo : Int} {l : List R2} (h : frB u lo l = true) {r : Nat} {x : R2} {a : Int} (hr : l[r]? = some x) (ha : 0 ≤ a ∧ a ≤ 1) (hx : 0 ≤ x.a ∧ x.a ≤ 1) : playS u lo l (if a - x.a = 0 then [] else [⟨r, 0, a - x.a⟩]) = some (l.set r ⟨a, x.b⟩) ∧ (if a - x.a = 0 then ([] : List R3) else [⟨r, 0, a - x.a⟩]).all okM = true := by
 obtain ⟨hu, hlo, h1, h8⟩ := frB_head h
 have hrl : r < l.length := (List.getElem?_eq_some_iff.1 hr).1
 have hrod := frB_rod h hr
 by_cases e : a - x.a = 0
 · rw [if_pos e]
   refine ⟨?_, rfl⟩
   have : (⟨a, x.b⟩ : R2) = x := by rw [R2.eq_iff]; exact ⟨by show a = x.a; omega, rfl⟩
   rw [this, set_same hr]
   rfl
 · rw [if_neg e]
   have hb : bump x ⟨r, 0, a - x.a⟩ = ⟨a, x.b⟩ := by
    unfold bump
    rw [if_pos rfl, R2.eq_iff]
    exact ⟨by show x.a + (a - x.a) = a; omega, rfl⟩
   have hg : l.getD r ⟨0, 0⟩ = x := by rw [List.getD_eq_getElem?_getD, hr]; rfl
   have hm : mvL l ⟨r, 0, a - x.a⟩ = l.set r ⟨a, x.b⟩ := by
    show l.set (r : Int).toNat (bump (l.getD (r : Int).toNat ⟨0, 0⟩) ⟨r, 0, a - x.a⟩) = _
    rw [Int.toNat_natCast, hg, hb]
   refine ⟨?_, ?_⟩
   · rw [play_one, hm]
     unfold mvB
     rw [hm, frB_set h]
     · simp; exact hrl
     · unfold rodB
       simp only [Bool.and_eq_true, inB_iff]
       omega
   · simp only [List.all_cons, List.all_nil, Bool.and_true, okM_iff]
     exact ⟨by omega, by omega, by omega, e⟩
theorem turn_lo {u lo : Int} {l : List R2} (h : frB u lo l = true) {r : Nat} {x : R2} {b : Int} (hr : l[r]? = some x) (hb : 0 ≤ b ∧ b ≤ 4) (hx : 0 ≤ x.b ∧ x.b ≤ 4) : playS u lo l (if b - x.b = 0 then [] else [⟨r, 1, b - x.b⟩]) = some (l.set r ⟨x.a, b⟩) ∧ (if b - x.b = 0 then ([] : List R3) else [⟨r, 1, b - x.b⟩]).all okM = true := by
 obtain ⟨hu, hlo, h1, h8⟩ := frB_head h
 have hrl : r < l.length := (List.getElem?_eq_some_iff.1 hr).1
 have hrod := frB_rod h hr
 by_cases e : b - x.b = 0
 · rw [if_pos e]
   refine ⟨?_, rfl⟩
   have : (⟨x.a, b⟩ : R2) = x := by rw [R2.eq_iff]; exact ⟨rfl, by show b = x.b; omega⟩
   rw [this, set_same hr]
   rfl
 · rw [if_neg e]
   have hb : bump x ⟨r, 1, b - x.b⟩ = ⟨x.a, b⟩ := by
    unfold bump
    rw [if_neg (show ¬ (1 : Int) = 0 by decide), R2.eq_iff]
    exact ⟨rfl, by show x.b + (b - x.b) = b; omega⟩
   have hg : l.getD r ⟨0, 0⟩ = x := by rw [List.getD_eq_getElem?_getD, hr]; rfl
   have hm : mvL l ⟨r, 1, b - x.b⟩ = l.set r ⟨x.a, b⟩ := by
    show l.set (r : Int).toNat (bump (l.getD (r : Int).toNat ⟨0, 0⟩) ⟨r, 1, b - x.b⟩) = _
    rw [Int.toNat_natCast, hg, hb]
   refine ⟨?_, ?_⟩
   · rw [play_one, hm]
     unfold mvB
     rw [hm, frB_set h]
     · simp; exact hrl
     · unfold rodB
       simp only [Bool.and_eq_true, inB_iff]
       omega
   · simp only [List.all_cons, List.all_nil, Bool.and_true, okM_iff]
     exact ⟨by omega, by omega, by omega, e⟩
theorem play_turn {u lo : Int} {l : List R2} (h : frB u lo l = true) {r : Nat} {a v : Int} (hr : l[r]? = some (rodD a)) (ha : 0 ≤ a ∧ a ≤ 9) (hv : 0 ≤ v ∧ v ≤ 9) : playS u lo l (turnM r a v) = some (l.set r (rodD v)) ∧ (turnM r a v).all okM = true := by
 have hrl : r < l.length := (List.getElem?_eq_some_iff.1 hr).1
 obtain ⟨hu, hlo, h1, h8⟩ := frB_head h
 have e1 : (rodD a).a = a / 5 := rfl
 have e2 : (rodD a).b = a % 5 := rfl
 have e3 : (rodD v).a = v / 5 := rfl
 have e4 : (rodD v).b = v % 5 := rfl
 obtain ⟨p1, q1⟩ := turn_up h hr (a := (rodD v).a) (by rw [e3]; omega) (by rw [e1]; omega)
 have hf : frB u lo (l.set r ⟨(rodD v).a, (rodD a).b⟩) = true := frB_set h (by
  unfold rodB
  simp only [Bool.and_eq_true, inB_iff, e2, e3]
  omega)
 obtain ⟨p2, q2⟩ := turn_lo hf (r := r) (x := ⟨(rodD v).a, (rodD a).b⟩) (b := (rodD v).b) (by rw [List.getElem?_set_self hrl]) (by rw [e4]; omega) (by show 0 ≤ (rodD a).b ∧ (rodD a).b ≤ 4; rw [e2]; omega)
 unfold turnM mvR
 refine ⟨?_, ?_⟩
 · rw [play_app, p1]
   show playS u lo (l.set r ⟨(rodD v).a, (rodD a).b⟩) _ = _
   rw [p2, List.set_set]
 · rw [List.all_append, q1, q2]; rfl
/-- from worker s on the moves, played, make the frame of worker s' -/
def Plays (u lo : Int) (s s' : WS) : Prop := s'.ds.length = s.ds.length ∧ ∃ ns, s'.ms = s.ms ++ ns ∧ ns.all okM = true ∧ playS u lo (rodsD s.ds) ns = some (rodsD s'.ds)
theorem Plays.refl (u lo : Int) (s : WS) : Plays u lo s s := ⟨rfl, [], by simp, rfl, rfl⟩
theorem Plays.trans {u lo : Int} {a b c : WS} (h : Plays u lo a b) (h2 : Plays u lo b c) : Plays u lo a c := by
 obtain ⟨l1, ns, e1, o1, p1⟩ := h
 obtain ⟨l2, ms, e2, o2, p2⟩ := h2
 refine ⟨by omega, ns ++ ms, by rw [e2, e1, List.append_assoc], by rw [List.all_append, o1, o2]; rfl, ?_⟩
 rw [play_app, p1]
 exact p2
theorem Plays.ask {u lo : Int} {s : WS} {ds : List Int} {ms : List R3} {q q' : Int} (h : Plays u lo s ⟨ds, ms, q⟩) : Plays u lo s ⟨ds, ms, q'⟩ := h
theorem Plays.turn {u lo : Int} (s : WS) {r : Nat} {v : Int} (q : Int) (hh : headB u lo s.ds.length = true) (hw : WF s.ds) (hr : r < s.ds.length) (hv : 0 ≤ v ∧ v ≤ 9) : Plays u lo s ⟨s.ds.set r v, s.ms ++ turnM r (s.ds.getD r 0) v, q⟩ := by
 obtain ⟨d, hd⟩ := list_split (l := s.ds) (k := r) hr
 have hg : s.ds.getD r 0 = d := by rw [List.getD_eq_getElem?_getD, hd]; rfl
 obtain ⟨p, o⟩ := play_turn (frB_rodsD hh hw) (rodsD_get hd) (hw.get hd) hv
 refine ⟨by simp, turnM r (s.ds.getD r 0) v, rfl, by rw [hg]; exact o, ?_⟩
 rw [hg, p]
 show some _ = some (rodsD (s.ds.set r v))
 rw [rodsD_set]
theorem addS_plays {u lo : Int} : ∀ (r : Nat) (d : Int) (s : WS), headB u lo s.ds.length = true → AddFit r d s.ds → Plays u lo s (addS r d s) := by
 intro r
 induction r with
 | zero => intro d s _ _; exact Plays.refl _ _ _
 | succ r ih =>
   intro d s hh hf
   by_cases h : 0 < d
   · rw [addS_pos s h]
     have hx := hf.2.2.2.1.getD r
     exact (Plays.turn s _ hh hf.2.2.2.1 hf.1 (by omega)).trans (ih _ _ (by show headB u lo (s.ds.set r _).length = true; rw [List.length_set]; exact hh) hf.step)
   · rw [addS_none s h]; exact Plays.refl _ _ _
theorem takeS_plays {u lo : Int} : ∀ (r : Nat) (d : Int) (s : WS), headB u lo s.ds.length = true → TakeFit r d s.ds → Plays u lo s (takeS r d s) := by
 intro r
 induction r with
 | zero => intro d s _ _; exact Plays.refl _ _ _
 | succ r ih =>
   intro d s hh hf
   by_cases h : 0 < d
   · have hv := hf.2.2.2.1.getD r
     by_cases hx : d ≤ s.ds.getD r 0
     · rw [takeS_in s h hx]
       exact Plays.turn s _ hh hf.2.2.2.1 hf.1 (by omega)
     · rw [takeS_left s h hx]
       exact (Plays.turn s _ hh hf.2.2.2.1 hf.1 (by have := hf.2.2.1; omega)).trans (ih _ _ (by show headB u lo (s.ds.set r _).length = true; rw [List.length_set]; exact hh) (hf.left hx))
   · rw [takeS_none s h]; exact Plays.refl _ _ _
theorem addN_plays {u lo : Int} {m : Int} {s : WS} (hh : headB u lo s.ds.length = true) (hw : WF s.ds) (h0 : 0 ≤ m) (hm : numD s.ds + m < pw s.ds.length) : ∀ k, k ≤ s.ds.length → Plays u lo s (addN s.ds.length m s k) := by
 intro k
 induction k with
 | zero => intro _; exact Plays.refl _ _ _
 | succ k ih =>
   intro hk
   refine (ih (by omega)).trans ?_
   rw [addN]
   exact addS_plays _ _ _ (by rw [addN_len]; exact hh) ((addN_facts hw h0 hm k (by omega)).2 (by omega))
theorem takeN_plays {u lo : Int} {m : Int} {s : WS} (hh : headB u lo s.ds.length = true) (hw : WF s.ds) (h0 : 0 ≤ m) (hm : m ≤ numD s.ds) : ∀ k, k ≤ s.ds.length → Plays u lo s (takeN s.ds.length m s k) := by
 intro k
 induction k with
 | zero => intro _; exact Plays.refl _ _ _
 | succ k ih =>
   intro hk
   refine (ih (by omega)).trans ?_
   rw [takeN]
   exact takeS_plays _ _ _ (by rw [takeN_len]; exact hh) ((takeN_facts hw h0 hm k (by omega)).2 (by omega))
theorem numD_inj : ∀ {a b : List Int}, WF a → WF b → a.length = b.length → numD a = numD b → a = b := by
 intro a
 induction a with
 | nil => intro b _ _ hl _; exact (List.eq_nil_of_length_eq_zero (by rw [← hl]; rfl)).symm
 | cons x a ih =>
   intro b ha hb hl he
   cases b with
   | nil => simp at hl
   | cons y b =>
     simp only [List.length_cons, Nat.add_right_cancel_iff] at hl
     have ha2 : WF a := fun z hz => ha z (List.mem_cons_of_mem _ hz)
     have hb2 : WF b := fun z hz => hb z (List.mem_cons_of_mem _ hz)
     have h1 := numD_bounds ha2
     have h2 := numD_bounds hb2
     rw [numD_cons, numD_cons, hl] at he
     rw [hl] at h1
     have hp := pw_pos b.length
     have hxy : x = y := by
      rcases Int.lt_trichotomy x y with h | h | h
      · have : (x + 1) * pw b.length ≤ y * pw b.length := Int.mul_le_mul_of_nonneg_right (by omega) (by omega)
        rw [Int.add_mul] at this
        omega
      · exact h
      · have : (y + 1) * pw b.length ≤ x * pw b.length := Int.mul_le_mul_of_nonneg_right (by omega) (by omega)
        rw [Int.add_mul] at this
        omega
     subst hxy
     rw [ih ha2 hb2 hl (by omega)]
/-- a standard frame is known by its number -/
theorem numR_rodsD (ds : List Int) : numR (rodsD ds) = numD ds := by unfold numR; rw [dsOf_rodsD]
end Go.Proofs.Ytfechhacmkajdaa
namespace Go.Proofs.Ytfechhacmkajdaa
open Go.RowKit
set_option linter.unusedVariables false
set_option linter.unusedSimpArgs false
/-- the digits of m from the left, of which there are at most f -/
def digT : Nat → Int → List Int
 | 0, _ => []
 | f + 1, m => if 0 < m then digT f (m / 10) ++ [m % 10] else []
theorem digT_pos {f : Nat} {m : Int} (h : 0 < m) : digT (f + 1) m = digT f (m / 10) ++ [m % 10] := by rw [digT, if_pos h]
theorem digT_zero (f : Nat) : digT f 0 = [] := by cases f <;> rfl
theorem digT_len : ∀ f m, (digT f m).length ≤ f := by
 intro f
 induction f with
 | zero => intro m; exact Nat.le_refl _
 | succ f ih =>
   intro m
   rw [digT]
   split
   · have := ih (m / 10)
     simp
     omega
   · exact Nat.zero_le _
theorem digT_WF : ∀ f m, WF (digT f m) := by
 intro f
 induction f with
 | zero => intro m d hd; cases hd
 | succ f ih =>
   intro m d hd
   rw [digT] at hd
   split at hd
   · rcases List.mem_append.1 hd with h | h
     · exact ih _ d h
     · simp at h; omega
   · cases hd
theorem digT_num : ∀ f m, 0 ≤ m → m < pw f → numD (digT f m) = m := by
 intro f
 induction f with
 | zero => intro m h0 h1; rw [pw_zero] at h1; have : m = 0 := by omega
           subst this; rfl
 | succ f ih =>
   intro m h0 h1
   rw [pw_succ] at h1
   rw [digT]
   split
   · rw [numD_snoc, ih (m / 10) (by omega) (by omega)]
     omega
   · have : m = 0 := by omega
     subst this; rfl
theorem digT_low : ∀ f m, 0 < m → m < pw f → ∃ k, (digT f m).length = k + 1 ∧ pw k ≤ m := by
 intro f
 induction f with
 | zero => intro m h0 h1; rw [pw_zero] at h1; omega
 | succ f ih =>
   intro m h0 h1
   rw [pw_succ] at h1
   rw [digT_pos h0]
   by_cases h : 0 < m / 10
   · obtain ⟨k, hk, hp⟩ := ih (m / 10) h (by omega)
     refine ⟨k + 1, by simp [hk], ?_⟩
     rw [pw_succ]
     omega
   · have e : m / 10 = 0 := by omega
     rw [e, digT_zero]
     exact ⟨0, rfl, by rw [pw_zero]; omega⟩
/-- what is left behind k digits -/
def rsT (b : Int) (ds : List Int) : Nat → Int
 | 0 => 0
 | k + 1 => (10 * rsT b ds k + ds.getD k 0) % b
/-- what is divided at digit k -/
def s0T (b : Int) (ds : List Int) (k : Nat) : Int := 10 * rsT b ds k + ds.getD k 0
def stT (b : Int) (ds : List Int) : Nat → List R3
 | 0 => []
 | k + 1 => stT b ds k ++ [⟨s0T b ds k, s0T b ds k / b, s0T b ds k % b⟩]
theorem rsT_succ (b : Int) (ds : List Int) (k : Nat) : rsT b ds (k + 1) = s0T b ds k % b := rfl
theorem stT_len (b : Int) (ds : List Int) : ∀ k, (stT b ds k).length = k := by
 intro k
 induction k with
 | zero => rfl
 | succ k ih => rw [stT]; simp [ih]
theorem stT_get (b : Int) (ds : List Int) : ∀ n k, k < n → (stT b ds n)[k]? = some ⟨s0T b ds k, s0T b ds k / b, s0T b ds k % b⟩ := by
 intro n
 induction n with
 | zero => intro k h; omega
 | succ n ih =>
   intro k h
   rw [stT]
   by_cases h2 : k < n
   · rw [List.getElem?_append_left (by rw [stT_len]; exact h2)]
     exact ih k h2
   · have : k = n := by omega
     subst this
     rw [List.getElem?_append_right (by rw [stT_len]; exact Nat.le_refl _), stT_len, Nat.sub_self]
     rfl
theorem rsT_bounds {b : Int} (hb : 1 ≤ b) (ds : List Int) (k : Nat) : 0 ≤ rsT b ds k ∧ rsT b ds k < b := by
 cases k with
 | zero => exact ⟨Int.le_refl _, by show (0 : Int) < b; omega⟩
 | succ k => exact ⟨Int.emod_nonneg _ (by omega), Int.emod_lt_of_pos _ (by omega)⟩
theorem s0T_bounds {b : Int} (hb : 1 ≤ b) {ds : List Int} (hw : WF ds) (k : Nat) : 0 ≤ s0T b ds k ∧ s0T b ds k < 10 * b := by
 have h1 := rsT_bounds hb ds k
 have h2 := hw.getD k
 unfold s0T
 omega
theorem qT_bounds {b : Int} (hb : 1 ≤ b) {ds : List Int} (hw : WF ds) (k : Nat) : 0 ≤ s0T b ds k / b ∧ s0T b ds k / b ≤ 9 := by
 obtain ⟨h1, h2⟩ := s0T_bounds hb hw k
 refine ⟨Int.ediv_nonneg h1 (by omega), ?_⟩
 have : s0T b ds k / b < 10 := Int.ediv_lt_of_lt_mul (by omega) h2
 omega
/-- the digits of the quotient make it up -/
def nqT (b : Int) (ds : List Int) : Nat → Int
 | 0 => 0
 | k + 1 => 10 * nqT b ds k + s0T b ds k / b
theorem nqT_num (b : Int) (ds : List Int) : ∀ k, k ≤ ds.length → numD (ds.take k) = nqT b ds k * b + rsT b ds k := by
 intro k
 induction k with
 | zero => intro _; show numD [] = 0 * b + 0; simp [numD]
 | succ k ih =>
   intro h
   obtain ⟨d, hd⟩ : ∃ d, ds[k]? = some d := ⟨_, List.getElem?_eq_getElem (by omega)⟩
   rw [List.take_add_one, hd]
   show numD (ds.take k ++ [d]) = _
   rw [numD_snoc, ih (by omega), nqT, rsT_succ, Int.add_mul]
   have h1 := Int.ediv_mul_add_emod (s0T b ds k) b
   have h2 : s0T b ds k = 10 * rsT b ds k + d := by unfold s0T; rw [List.getD_eq_getElem?_getD, hd]; rfl
   have h3 : 10 * (nqT b ds k * b) = 10 * nqT b ds k * b := by rw [Int.mul_assoc]
   omega
/-- the trial digits -/
def tq (b P : Int) (x : Int) : Int := if 9 < x / P / (b / P) then 9 else x / P / (b / P)
def trT (b P : Int) (ds : List Int) : Nat → List Int
 | 0 => []
 | k + 1 => trT b P ds k ++ [tq b P (s0T b ds k)]
theorem trT_len (b P : Int) (ds : List Int) : ∀ k, (trT b P ds k).length = k := by
 intro k
 induction k with
 | zero => rfl
 | succ k ih => rw [trT]; simp [ih]
theorem trT_get (b P : Int) (ds : List Int) : ∀ n k, k < n → (trT b P ds n)[k]? = some (tq b P (s0T b ds k)) := by
 intro n
 induction n with
 | zero => intro k h; omega
 | succ n ih =>
   intro k h
   rw [trT]
   by_cases h2 : k < n
   · rw [List.getElem?_append_left (by rw [trT_len]; exact h2)]
     exact ih k h2
   · have : k = n := by omega
     subst this
     rw [List.getElem?_append_right (by rw [trT_len]; exact Nat.le_refl _), trT_len, Nat.sub_self]
     rfl
theorem tq_bounds {b P : Int} (hb : 1 ≤ b) (hP : 1 ≤ P) {x : Int} (hx : 0 ≤ x) : 0 ≤ tq b P x ∧ tq b P x ≤ 9 := by
 unfold tq
 have h1 : 0 ≤ x / P := Int.ediv_nonneg hx (by omega)
 have h2 : 0 ≤ b / P := Int.ediv_nonneg (by omega) (by omega)
 have h3 : 0 ≤ x / P / (b / P) := Int.ediv_nonneg h1 h2
 split <;> omega
/-- no trial digit is less than the digit of the quotient -/
theorem tq_most {b P : Int} (hb : 1 ≤ b) (hP : 1 ≤ P) (hPb : P ≤ b) {x : Int} (hx : 0 ≤ x) (hq : x / b ≤ 9) : x / b ≤ tq b P x := by
 unfold tq
 split
 · exact hq
 · have hbp : 1 ≤ b / P := by
    rw [Int.le_ediv_iff_mul_le (by omega)]
    omega
   rw [Int.le_ediv_iff_mul_le (by omega), Int.le_ediv_iff_mul_le (by omega), Int.mul_assoc]
   have h1 : b / P * P ≤ b := Int.ediv_mul_le b (by omega)
   have h2 : 0 ≤ x / b := Int.ediv_nonneg hx (by omega)
   have h3 : x / b * (b / P * P) ≤ x / b * b := Int.mul_le_mul_of_nonneg_left h1 h2
   have h4 : x / b * b ≤ x := Int.ediv_mul_le x (by omega)
   omega
/-- how much the trial digits are more -/
def coT (b P : Int) (ds : List Int) : Nat → Int
 | 0 => 0
 | k + 1 => coT b P ds k + (tq b P (s0T b ds k) - s0T b ds k / b)
def dvB (a b : Int) : Bool := inB a 0 99999999 && inB b 1 9999
def dgA (a : Int) : List Int := digT 9 a
def mrB (b : Int) : Int := pw ((digT 9 b).length - 1)
theorem pw9 : pw 9 = 1000000000 := by decide
theorem mrB_bounds {b : Int} (h : 1 ≤ b) (h2 : b ≤ 9999) : 1 ≤ mrB b ∧ mrB b ≤ b ∧ (digT 9 b).length - 1 ≤ 8 ∧ 1 ≤ (digT 9 b).length := by
 obtain ⟨k, hk, hp⟩ := digT_low 9 b (by omega) (by rw [pw9]; omega)
 have := digT_len 9 b
 unfold mrB
 rw [hk, Nat.add_sub_cancel]
 exact ⟨pw_pos k, hp, by omega, by omega⟩
theorem dgA_facts {a : Int} (h : 0 ≤ a) (h2 : a ≤ 99999999) : WF (dgA a) ∧ numD (dgA a) = a ∧ (dgA a).length ≤ 9 := ⟨digT_WF _ _, digT_num 9 a h (by rw [pw9]; omega), digT_len _ _⟩
/-- the quotient and the rest -/
theorem div_law {a b : Int} (h : dvB a b = true) : nqT b (dgA a) (dgA a).length = a / b ∧ rsT b (dgA a) (dgA a).length = a % b := by
 unfold dvB at h
 simp only [Bool.and_eq_true] at h
 have h1 := inB_iff.1 h.1
 have h2 := inB_iff.1 h.2
 obtain ⟨hw, hn, hl⟩ := dgA_facts h1.1 h1.2
 have h3 := nqT_num b (dgA a) _ (Nat.le_refl _)
 rw [List.take_length, hn] at h3
 have h4 := rsT_bounds h2.1 (dgA a) (dgA a).length
 have h5 : 0 < b := by omega
 generalize nqT b (dgA a) (dgA a).length = n at *
 generalize rsT b (dgA a) (dgA a).length = r at *
 subst h3
 constructor
 · rw [Int.mul_comm, Int.mul_add_ediv_left _ _ (by omega), Int.ediv_eq_zero_of_lt h4.1 h4.2]; omega
 · rw [Int.mul_comm, Int.mul_add_emod_self_left, Int.emod_eq_of_lt h4.1 h4.2]
end Go.Proofs.Ytfechhacmkajdaa
namespace Go.Proofs.Ytfechhacmkajdaa
open Go.RowKit
set_option linter.unusedVariables false
set_option linter.unusedSimpArgs false
theorem info_tri : (Try.prog.info? 51).map (fun i => (i.zero, i.size, i.bytes)) = some (some (.agg #[.int .i64 0, .int .i64 0, .int .i64 0]), 3, 24) := by kernel_rfl
theorem ints_oneC (l : List Int) : ∀ u ∈ intsV l, u.oneCell' = true := by
 intro u hu
 unfold intsV at hu
 obtain ⟨x, _, rfl⟩ := List.mem_map.1 hu
 rfl
theorem lit_own {B : Nat} (w0 : World) (E K : Nat) (cs : List Value) {H : Nat} (hH : H = w0.heap.size) (hB : B ≤ w0.heap.size) (hl : cs.length = K) : (w0.alloc (.cells cs.toArray E)).ownsRow B E K (.slice (some ⟨H, 0, none⟩) 1 1) 1 cs := by
 subst hH
 have := World.ownsRow_lit (base := B) (e := E) (size := K) w0 cs.toArray 1 hB (by unfold maxLen; omega) (by simpa using hl)
 simpa using this
set_option maxRecDepth 100000 in
set_option maxHeartbeats 4000000 in
theorem implDigits_any (m : Int) (w : World) (h0 : 0 ≤ m) (h1 : m < 1000000000) : Calls Try.prog 47 #[.int .i64 m] w (RetSlice w 3 1 (digT 9 m).length (intsV (digT 9 m))) := by
 obtain ⟨i0, hi, hz0, hz1, hz2⟩ := info_parts info_int
 unfold RetSlice
 obtain ⟨D, hD⟩ : ∃ D, digT 9 m = D := ⟨_, rfl⟩
 rw [hD]
 have HD := Lib.hid hD
 clear hD
 go_enter Try.func47, Try.ntmps47
 go_wp2_with fail
 go_loopw [0, 3] (fun nv out wr => ∃ (f : Nat) (y : Int) (A : Option Addr) (c : Nat) (ys : List Int), nv = .int .i64 y ∧ out = .slice A ys.length c ∧ 0 ≤ y ∧ y < 1000000000 ∧ f ≤ 9 ∧ ys.length + f ≤ 9 ∧ Hid (y < pw f) ∧ Hid (digT f y ++ ys = digT 9 m) ∧ Hid (wr.ownsRow w.heap.size 3 1 (.slice A ys.length c) ys.length (intsV ys)) ∧ Hid (Below w.heap.size w wr)) (fun nv _ _ => (intOf nv).toNat)
 case atStart => exact ⟨9, m, none, 0, [], rfl, rfl, h0, h1, Nat.le_refl _, by simp, Lib.hid (by rw [pw9]; exact h1), Lib.hid (List.append_nil _), Lib.hid (World.ownsRow_nil _ _ _ _), Lib.hid (ext_refl _)⟩
 case round =>
  obtain ⟨f, y, A, c, ys, rfl, rfl, y0, y1, hf, hyl, HY, HT, HO, HB⟩ := hrel
  by_cases hy : 0 < y
  · obtain ⟨f, rfl⟩ : ∃ k, f = k + 1 := by
     cases f with
     | zero => have h := HY.out; rw [pw_zero] at h; omega
     | succ k => exact ⟨k, rfl⟩
    have htm : y.tmod 10 = y % 10 := Int.tmod_eq_emod_of_nonneg y0
    have htd : y.tdiv 10 = y / 10 := Int.tdiv_eq_ediv_of_nonneg y0
    have hr : 0 ≤ y % 10 ∧ y % 10 ≤ 9 := by omega
    have hd : 0 ≤ y / 10 ∧ y / 10 < y := by omega
    have HY2 := Lib.hid (show y / 10 < pw f by have h := HY.out; rw [pw_succ] at h; omega)
    have HT2 := Lib.hid (show digT f (y / 10) ++ ([y % 10] ++ ys) = digT 9 m by have h := HT.out; rw [digT_pos hy, List.append_assoc] at h; exact h)
    obtain ⟨r, hr2⟩ : ∃ r, y % 10 = r := ⟨_, rfl⟩
    rw [hr2] at htm hr HT2
    obtain ⟨d, hd2⟩ : ∃ d, y / 10 = d := ⟨_, rfl⟩
    rw [hd2] at htd hd HY2 HT2
    clear hr2 hd2
    obtain ⟨V, hV⟩ : ∃ V : World, V = wr := ⟨_, rfl⟩
    subst hV
    have hbV := HB.out.size
    have HOV := Lib.hid (HO.out.alloc (.cells #[.int .i64 r] 3))
    have HLT := Lib.hid (lit_own (B := w.heap.size) V 3 1 [.int .i64 r] rfl hbV rfl)
    have m1 : 1 + ys.length ≤ maxLen := by unfold maxLen; omega
    have m2 : (1 + ys.length) * 8 ≤ 140737488355328 := by omega
    go_wp2_with (at_builtin; refine wpList_appO rfl (.tmp 10) (.tmp 11) 26 rfl w.heap.size 3 i0 _ 1 8 Try.underlying26 hi hz0 hz1 hz2 rfl (by decide) (.slice (some ⟨V.heap.size, 0, none⟩) 1 1) 1 _ rfl HLT.out A ys.length c (intsV ys) rfl _ HOV.out (ints_oneC _) m1 m2 (by simp <;> omega) ?_; intro A4 c4 w9 hown hgrow; have HGR := Lib.hid hgrow; have HOW := Lib.hid hown; clear hown hgrow)
    have HB9 := Lib.hid (below_grown' HLT.out (Nat.le_refl _) (ext_alloc HB.out (.cells #[.int .i64 r] 3)) HGR.out)
    have hlen : ([r] ++ ys).length = 1 + ys.length := by simp; omega
    have HOW2 := Lib.hid (show w9.ownsRow w.heap.size 3 1 (.slice A4 ([r] ++ ys).length c4) ([r] ++ ys).length (intsV ([r] ++ ys)) by rw [hlen]; have h9 := HOW.out; simpa [intsV] using h9)
    rw [← hlen]
    have HLL := Lib.hid hlen
    clear hlen
    go_wp2
    go_roundw
    case rel => exact ⟨f, d, A4, c4, [r] ++ ys, by go_num, rfl, hd.1, by omega, by omega, by rw [HLL.out]; omega, HY2, HT2, HOW2, HB9⟩
    case measure => simp [intOf]; omega
  · obtain rfl : y = 0 := by omega
    have hys : ys = D := by have h := HT.out; rw [digT_zero, HD.out] at h; simpa using h
    subst hys
    go_wp2
    go_ret
    exact ⟨_, _, rfl, HO.out, HB.out⟩
set_option maxRecDepth 100000 in
set_option maxHeartbeats 4000000 in
theorem specDigits_any (m : Int) (w : World) (h0 : 0 ≤ m) (h1 : m < 1000000000) : Calls Try.prog 50 #[.int .i64 m] w (RetSlice w 3 1 (digT 9 m).length (intsV (digT 9 m))) := by
 obtain ⟨i0, hi, hz0, hz1, hz2⟩ := info_parts info_int
 unfold RetSlice
 obtain ⟨D, hD⟩ : ∃ D, digT 9 m = D := ⟨_, rfl⟩
 rw [hD]
 have HD := Lib.hid hD
 clear hD
 go_enter Try.func50, Try.ntmps50
 go_wp2_with fail
 go_loopw [0, 3] (fun nv out wr => ∃ (f : Nat) (y : Int) (A : Option Addr) (c : Nat) (ys : List Int), nv = .int .i64 y ∧ out = .slice A ys.length c ∧ 0 ≤ y ∧ y < 1000000000 ∧ f ≤ 9 ∧ ys.length + f ≤ 9 ∧ Hid (y < pw f) ∧ Hid (digT f y ++ ys = digT 9 m) ∧ Hid (wr.ownsRow w.heap.size 3 1 (.slice A ys.length c) ys.length (intsV ys)) ∧ Hid (Below w.heap.size w wr)) (fun nv _ _ => (intOf nv).toNat)
 case atStart => exact ⟨9, m, some ⟨w.heap.size, 0, none⟩, 0, [], rfl, rfl, h0, h1, Nat.le_refl _, by simp, Lib.hid (by rw [pw9]; exact h1), Lib.hid (List.append_nil _), Lib.hid (own_lit0 w 3 1), Lib.hid (ext_alloc (ext_refl w) (.cells #[] 3))⟩
 case round =>
  obtain ⟨f, y, A, c, ys, rfl, rfl, y0, y1, hf, hyl, HY, HT, HO, HB⟩ := hrel
  by_cases hy : 0 < y
  · obtain ⟨f, rfl⟩ : ∃ k, f = k + 1 := by
     cases f with
     | zero => have h := HY.out; rw [pw_zero] at h; omega
     | succ k => exact ⟨k, rfl⟩
    have htm : y.tmod 10 = y % 10 := Int.tmod_eq_emod_of_nonneg y0
    have htd : y.tdiv 10 = y / 10 := Int.tdiv_eq_ediv_of_nonneg y0
    have hr : 0 ≤ y % 10 ∧ y % 10 ≤ 9 := by omega
    have hd : 0 ≤ y / 10 ∧ y / 10 < y := by omega
    have HY2 := Lib.hid (show y / 10 < pw f by have h := HY.out; rw [pw_succ] at h; omega)
    have HT2 := Lib.hid (show digT f (y / 10) ++ ([y % 10] ++ ys) = digT 9 m by have h := HT.out; rw [digT_pos hy, List.append_assoc] at h; exact h)
    obtain ⟨r, hr2⟩ : ∃ r, y % 10 = r := ⟨_, rfl⟩
    rw [hr2] at htm hr HT2
    obtain ⟨d, hd2⟩ : ∃ d, y / 10 = d := ⟨_, rfl⟩
    rw [hd2] at htd hd HY2 HT2
    clear hr2 hd2
    obtain ⟨V, hV⟩ : ∃ V : World, V = wr := ⟨_, rfl⟩
    subst hV
    have hbV := HB.out.size
    have HOV := Lib.hid (HO.out.alloc (.cells #[.int .i64 r] 3))
    have HLT := Lib.hid (lit_own (B := w.heap.size) V 3 1 [.int .i64 r] rfl hbV rfl)
    have m1 : 1 + ys.length ≤ maxLen := by unfold maxLen; omega
    have m2 : (1 + ys.length) * 8 ≤ 140737488355328 := by omega
    go_wp2_with (at_builtin; refine wpList_appO rfl (.tmp 9) (.tmp 10) 26 rfl w.heap.size 3 i0 _ 1 8 Try.underlying26 hi hz0 hz1 hz2 rfl (by decide) (.slice (some ⟨V.heap.size, 0, none⟩) 1 1) 1 _ rfl HLT.out A ys.length c (intsV ys) rfl _ HOV.out (ints_oneC _) m1 m2 (by simp <;> omega) ?_; intro A4 c4 w9 hown hgrow; have HGR := Lib.hid hgrow; have HOW := Lib.hid hown; clear hown hgrow)
    have HB9 := Lib.hid (below_grown' HLT.out (Nat.le_refl _) (ext_alloc HB.out (.cells #[.int .i64 r] 3)) HGR.out)
    have hlen : ([r] ++ ys).length = 1 + ys.length := by simp; omega
    have HOW2 := Lib.hid (show w9.ownsRow w.heap.size 3 1 (.slice A4 ([r] ++ ys).length c4) ([r] ++ ys).length (intsV ([r] ++ ys)) by rw [hlen]; have h9 := HOW.out; simpa [intsV] using h9)
    rw [← hlen]
    have HLL := Lib.hid hlen
    clear hlen
    go_wp2
    go_roundw
    case rel => exact ⟨f, d, A4, c4, [r] ++ ys, by go_num, rfl, hd.1, by omega, by omega, by rw [HLL.out]; omega, HY2, HT2, HOW2, HB9⟩
    case measure => simp [intOf]; omega
  · obtain rfl : y = 0 := by omega
    have hys : ys = D := by have h := HT.out; rw [digT_zero, HD.out] at h; simpa using h
    subst hys
    go_wp2
    go_ret
    exact ⟨_, _, rfl, HO.out, HB.out⟩
end Go.Proofs.Ytfechhacmkajdaa
namespace Go.Proofs.Ytfechhacmkajdaa
open Go.RowKit
set_option linter.unusedVariables false
set_option linter.unusedSimpArgs false
/-- the rods l, of which the last j show m -/
def shTo (l : List R2) (n : Nat) (m : Int) (j : Nat) : List R2 := (List.range n).map fun i => if n - j ≤ i then rodD (dg n m i) else l.getD i ⟨0, 0⟩
theorem shTo_len (l : List R2) (n : Nat) (m : Int) (j : Nat) : (shTo l n m j).length = n := by simp [shTo]
theorem shTo_get {l : List R2} {n : Nat} (m : Int) (j : Nat) {i : Nat} (h : i < n) : (shTo l n m j)[i]? = some (if n - j ≤ i then rodD (dg n m i) else l.getD i ⟨0, 0⟩) := by simp [shTo, h]
theorem shTo_zero {l : List R2} {n : Nat} (m : Int) (h : l.length = n) : shTo l n m 0 = l := by
 refine List.ext_getElem? fun i => ?_
 by_cases hi : i < n
 · rw [shTo_get m 0 hi, if_neg (by omega)]
   obtain ⟨x, hx⟩ := list_split (l := l) (k := i) (by omega)
   rw [hx, List.getD_eq_getElem?_getD, hx]; rfl
 · rw [List.getElem?_eq_none (by rw [shTo_len]; omega), List.getElem?_eq_none (by omega)]
theorem shTo_all (l : List R2) (n : Nat) (m : Int) : shTo l n m n = rodsD (digs n m) := by
 unfold shTo rodsD digs
 rw [List.map_map]
 exact List.map_congr_left fun i _ => by simp
theorem shTo_set {l : List R2} {n j : Nat} (m : Int) (h : j < n) : (shTo l n m j).set (n - 1 - j) (rodD (dg n m (n - 1 - j))) = shTo l n m (j + 1) := by
 refine List.ext_getElem? fun i => ?_
 by_cases hi : i < n
 · rw [shTo_get m (j + 1) hi]
   by_cases he : i = n - 1 - j
   · subst he
     rw [List.getElem?_set_self (by rw [shTo_len]; omega), if_pos (by omega)]
   · rw [List.getElem?_set_ne (by omega), shTo_get m j hi]
     by_cases hc : n - j ≤ i
     · rw [if_pos hc, if_pos (by omega)]
     · rw [if_neg hc, if_neg (by omega)]
 · rw [List.getElem?_eq_none (by rw [List.length_set, shTo_len]; omega), List.getElem?_eq_none (by rw [shTo_len]; omega)]
def RetSh (w : World) (u lo : Int) (n : Nat) (l : List R2) (e : Ending) (w' : World) : Prop := ∃ A c, e = .returned (frV u lo A n c) ∧ w'.ownsRow w.heap.size 54 2 (.slice A n c) n (rowsV2 l) ∧ Below w.heap.size w w'
set_option maxRecDepth 100000 in
set_option maxHeartbeats 8000000 in
theorem showing_any (u lo : Int) (A : Option Addr) (n c : Nat) (l : List R2) (m : Int) (w : World) (hn1 : 1 ≤ n) (hn : n ≤ 8) (m0 : 0 ≤ m) (m1 : m < 200000000) (h : Reads w w.heap.size 2 A n (rowsV2 l)) :
 Calls Try.prog 53 #[frV u lo A n c, .int .i64 m] w (RetSh w u lo n (rodsD (digs n m))) := by
 have hl := rows_len2 h
 have H := Lib.hid h
 have BF0 := Lib.hid ((Blk.born w #[.int .i64 u, .int .i64 lo, .slice A n c] 42 (H := w.heap.size) rfl).al (.cells #[.int .i64 0, .int .i64 0, .slice none 0 0] 42))
 have BR0 := Lib.hid (Blk.born (w.alloc (.cells #[.int .i64 u, .int .i64 lo, .slice A n c] 42)) #[.int .i64 0, .int .i64 0, .slice none 0 0] 42 (H := w.heap.size + 1) (by simp))
 have hbx := Lib.hid (ext_alloc (ext_alloc (ext_refl w) (.cells #[.int .i64 u, .int .i64 lo, .slice A n c] 42)) (.cells #[.int .i64 0, .int .i64 0, .slice none 0 0] 42))
 have HZ := Lib.hid (shTo_zero m hl)
 have HALL := Lib.hid (shTo_all l n m)
 clear h hl
 go_enter Try.func53, Try.ntmps53
 go_wp2_with fail
 refine (own_fr u lo A n c l _ hn1 (by omega) (rdx H.out hbx.out)).mono ?_
 rintro e w2 ⟨h, cr, rfl, hr2, hb4⟩
 have hr2 := Lib.hid (own_base (base' := w.heap.size) hr2 hbx.out.size)
 have BR3 := Lib.hid (BR0.out.ext hb4)
 have hb5 := Lib.hid (ext_trans hbx.out hb4)
 have hRl := BR3.out.lt
 obtain ⟨N, hN⟩ : ∃ N, N = w2.heap.size := ⟨_, rfl⟩
 obtain ⟨W, hW⟩ : ∃ W, W = w2.alloc (.cells #[.int .i64 u, .int .i64 lo, .slice (some ⟨h, 0, none⟩) n cr] 42) := ⟨_, rfl⟩
 have BNW := Lib.hid (show Blk W N 42 #[.int .i64 u, .int .i64 lo, .slice (some ⟨h, 0, none⟩) n cr] by rw [hW]; exact Blk.born _ _ _ hN)
 have BRW := Lib.hid (show Blk W (w.heap.size + 1) 42 #[.int .i64 0, .int .i64 0, .slice none 0 0] by rw [hW]; exact BR3.out.al _)
 have hrW := Lib.hid (show W.ownsRow w.heap.size 54 2 (.slice (some ⟨h, 0, none⟩) n cr) n (rowsV2 (shTo l n m 0)) by rw [hW, HZ.out]; exact hr2.out.alloc _)
 have hbW := Lib.hid (show Below w.heap.size w W by rw [hW]; exact ext_alloc hb5.out _)
 have HWN := Lib.hid (And.intro hW hN)
 clear hb4 hN hW hRl
 go_upto_region 2 with fail
 rw [← HWN.out.2, ← HWN.out.1]
 clear HWN
 obtain ⟨p0, p1, p2⟩ := BNW.out.q3
 have hNl := BNW.out.lt
 go_wp2_with fail
 go_loopw [1, 6] (fun v i wr => ∃ (j : Nat) (z : Int), j ≤ n ∧ i = .int .i64 z ∧ z = (n : Int) - 1 - j ∧ v = .int .i64 (m / pw j) ∧ Hid (Blk wr N 42 #[.int .i64 u, .int .i64 lo, .slice (some ⟨h, 0, none⟩) n cr]) ∧ Hid (Blk wr (w.heap.size + 1) 42 #[.int .i64 0, .int .i64 0, .slice none 0 0]) ∧ Hid (wr.ownsRow w.heap.size 54 2 (.slice (some ⟨h, 0, none⟩) n cr) n (rowsV2 (shTo l n m j))) ∧ Hid (Below w.heap.size w wr)) (fun _ i _ => (intOf i + 1).toNat)
 case atStart => exact ⟨0, _, Nat.zero_le _, rfl, by omega, by simp [pw_zero], BNW, BRW, hrW, hbW⟩
 case round =>
  clear BNW BRW hrW hbW p0 p1 p2 hNl
  obtain ⟨j, z, hj, rfl, hz, rfl, BNr, BRr, hrr, hbr⟩ := hrel
  have hd0 : 0 ≤ m / pw j := Int.ediv_nonneg m0 (by have := pw_pos j; omega)
  have hd1 : m / pw j ≤ m := Int.ediv_le_self _ m0
  by_cases hlt : j < n
  · obtain ⟨k, hk⟩ : ∃ k : Nat, k = n - 1 - j := ⟨_, rfl⟩
    have hzk : z = (k : Int) := by omega
    have hkn : k < n := by omega
    subst hzk
    have hset := Lib.hid (shTo_set (l := l) (n := n) (j := j) m hlt)
    rw [← hk] at hset
    have hlast := Lib.hid (dg_last (n := n) m hlt)
    rw [← hk] at hlast
    have hdiv := Lib.hid (div_pw (m := m) j)
    obtain ⟨x, hx⟩ := list_split (l := shTo l n m j) (k := k) (by rw [shTo_len]; exact hkn)
    have hset2 := Lib.hid (rowsV2_set (shTo l n m j) k (rodD (dg n m k)) (by rw [shTo_len]; exact hkn))
    obtain ⟨W, hW⟩ : ∃ y : World, y = wr := ⟨_, rfl⟩
    subst hW
    obtain ⟨p0, p1, p2⟩ := BNr.out.q3
    have hNl := BNr.out.lt
    obtain ⟨c0, c1, hlt', hge⟩ := rows_cells2 hrr.out hx
    have fz0 := own_frozen hrr.out (k * 2)
    have fz1 := own_frozen hrr.out (k * 2 + 1)
    have hneN : h ≠ N := fun ee => own_nbT hrr.out BNr.out (by decide) (by rw [ee]; rfl)
    have hneR : h ≠ w.heap.size + 1 := fun ee => own_nbT hrr.out BRr.out (by decide) (by rw [ee]; rfl)
    have HK := Lib.hid hk
    have hk1 : (k : Int) < (n : Int) := by omega
    have hk0 : (0 : Int) ≤ (k : Int) := by omega
    clear hx hk hz
    obtain ⟨M, hM⟩ : ∃ M, m / pw j = M := ⟨_, rfl⟩
    rw [hM] at hd0 hd1 hlast hdiv ⊢
    have hM1 : M ≤ 9223372036854775807 := by omega
    have hrm : 0 ≤ M % 10 ∧ M % 10 ≤ 9 := by omega
    have htm : M.tmod 10 = M % 10 := Int.tmod_eq_emod_of_nonneg hd0
    obtain ⟨d, hd⟩ : ∃ d, M % 10 = d := ⟨_, rfl⟩
    rw [hd] at hrm htm hlast
    have HR := Lib.hid (fun (w : World) => rodOf_any d w (by omega) (by omega))
    unfold R2.val rodD at HR
    clear hM hd
    go_upto_region 5 with fail
    go_cut [5] (fun s5 wx => s5 = .pointer (some ⟨N, 0, none⟩) ∧ Hid (Blk wx N 42 #[.int .i64 u, .int .i64 lo, .slice (some ⟨h, 0, none⟩) n cr]) ∧ Hid (Blk wx (w.heap.size + 1) 42 #[.int .i64 0, .int .i64 0, .slice none 0 0]) ∧ Hid (wx.ownsRow w.heap.size 54 2 (.slice (some ⟨h, 0, none⟩) n cr) n (rowsV2 (shTo l n m (j + 1)))) ∧ Hid (Below w.heap.size w wx))
    case first =>
     go_region_law (first | (go_simp; go_at_call 68; refine (HR.out _).mono ?_; rintro e w5 ⟨rfl, hb⟩; have hbA := Lib.hid (show Below W.heap.size W w5 from ext_trans (ext_drew (ext_refl _)) hb); have p2A := ext_cell hbA.out p2; have c0A := ext_cell hbA.out c0; have c1A := ext_cell hbA.out c1; have fz0A := (hbA.out.frozen (p := ⟨h, k * 2, none⟩) hlt').trans fz0; have fz1A := (hbA.out.frozen (p := ⟨h, k * 2 + 1, none⟩) hlt').trans fz1; have hltA := Nat.lt_of_lt_of_le hlt' hbA.out.size; clear hb))
     all_goals
      go_wp2_with fail
      go_meet
      exact ⟨rfl, Lib.hid (((BNr.out.ext hbA.out).setF (p := ⟨h, k * 2, none⟩) hneN _).setF (p := ⟨h, k * 2 + 1, none⟩) hneN _), Lib.hid (((BRr.out.ext hbA.out).setF (p := ⟨h, k * 2, none⟩) hneR _).setF (p := ⟨h, k * 2 + 1, none⟩) hneR _), by rw [← hset.out, hset2.out, hlast.out]; exact Lib.hid (((own_ext hrr.out hbA.out).stored (k * 2) _).1.stored (k * 2 + 1) _).1, Lib.hid (((ext_trans hbr.out hbA.out).setCell (p := ⟨h, k * 2, none⟩) hge _).setCell (p := ⟨h, k * 2 + 1, none⟩) hge _)⟩
    case rest =>
     obtain ⟨rfl, BN5, BR5, hr5, hb6⟩ := hcut
     go_wp2
     go_roundw
     case rel => exact ⟨j + 1, (k : Int) - 1, by omega, by go_num, by have := HK.out; omega, by rw [hdiv.out], BN5, BR5, hr5, hb6⟩
     case measure => simp [intOf]
  · obtain rfl : j = n := by omega
    have hz' : z = -1 := by omega
    subst hz'
    obtain ⟨p0, p1, p2⟩ := BNr.out.q3
    obtain ⟨r0, r1, r2⟩ := BRr.out.q3
    obtain ⟨z0, z1, z2⟩ := BRr.out.z3
    have hRl := BRr.out.lt
    clear hz
    go_wp2
    refine bodyPost_ret (v := frV u lo (some ⟨h, 0, none⟩) j cr) (by simp [results, Try.results53, go_sem, *]) rfl ?_
    exact ⟨some ⟨h, 0, none⟩, cr, rfl, by rw [← HALL.out]; exact fill_own' hrr.out (own_nbT hrr.out BRr.out (by decide)), fill_below hbr.out (Nat.le_succ _)⟩
end Go.Proofs.Ytfechhacmkajdaa
namespace Go.Proofs.Ytfechhacmkajdaa
open Go.RowKit
set_option linter.unusedVariables false
set_option linter.unusedSimpArgs false
def zeros8 : List R2 := rodsD (List.replicate 8 0)
def z16 : Array Value := #[.int .i64 0, .int .i64 0, .int .i64 0, .int .i64 0, .int .i64 0, .int .i64 0, .int .i64 0, .int .i64 0, .int .i64 0, .int .i64 0, .int .i64 0, .int .i64 0, .int .i64 0, .int .i64 0, .int .i64 0, .int .i64 0]
theorem made8 : (madeCells (Value.agg #[.int .i64 0, .int .i64 0]).cells (8 * 2)).toList = rowsV2 zeros8 := by
 rw [show madeCells (Value.agg #[.int .i64 0, .int .i64 0]).cells (8 * 2) = z16 by kernel_rfl]
 rfl
set_option maxRecDepth 100000 in
set_option maxHeartbeats 4000000 in
theorem frameFor8_any (w : World) : Calls Try.prog 33 #[.int .i64 1, .int .i64 4, .int .i64 8, .int .i64 0] w (RetFrB w (1, 4, zeros8) true) := by
 have BR0 := Lib.hid (Blk.born w #[.int .i64 0, .int .i64 0, .slice none 0 0] 42 (H := w.heap.size) rfl)
 have hbx := Lib.hid (ext_alloc (ext_refl w) (.cells #[.int .i64 0, .int .i64 0, .slice none 0 0] 42))
 have HZZ := Lib.hid (show rodsD (digs 8 0) = zeros8 by decide)
 have HZL := Lib.hid (show zeros8.length = 8 from rfl)
 go_enter Try.func33, Try.ntmps33
 go_wp2_with fail
 refine (within_b _ _ _ true _ (by decide)).mono ?_
 rintro e w1 ⟨rfl, hb⟩
 have BR1 := Lib.hid (BR0.out.ext hb)
 have HB1 := Lib.hid (ext_trans hbx.out hb)
 have hs1 := HB1.out.size
 have hlt1 := BR1.out.lt
 clear hb
 obtain ⟨i0, hi, hz0, hz1, hz2⟩ := info_parts info_rod
 go_wp2_with (at_make; refine wpList_make_full _ rfl _ _ 34 rfl w.heap.size 54 i0 _ 2 Try.underlying34 hi hz0 hz1 .i64 .i64 _ _ 8 rfl rfl rfl rfl (by rw [hz2]; omega) (by unfold maxLen; omega) (by omega) ?_; intro w2 hown0 hgrow0; have HO := Lib.hid hown0; have HGW := Lib.hid hgrow0; clear hown0 hgrow0)
 rw [made8] at HO
 have hb12 := Lib.hid ((ext_refl w1).grown HGW.out (Nat.le_refl _) (fun _ h => by cases h))
 obtain ⟨G, hG⟩ : ∃ G, G = w1.heap.size := ⟨_, rfl⟩
 rw [← hG] at HO ⊢
 obtain ⟨N, hN⟩ : ∃ N, N = w2.heap.size := ⟨_, rfl⟩
 obtain ⟨W, hW⟩ : ∃ y : World, y = w2.alloc (.cells #[.int .i64 1, .int .i64 4, .slice (some ⟨G, 0, none⟩) 8 8] 42) := ⟨_, rfl⟩
 have BN := Lib.hid (show Blk W N 42 #[.int .i64 1, .int .i64 4, .slice (some ⟨G, 0, none⟩) 8 8] by rw [hW]; exact Blk.born w2 _ 42 (H := N) hN)
 have BR := Lib.hid (show Blk W w.heap.size 42 #[.int .i64 0, .int .i64 0, .slice none 0 0] by rw [hW]; exact (BR1.out.ext hb12.out).al _)
 have HOW := Lib.hid (show W.ownsRow w.heap.size 54 2 (.slice (some ⟨G, 0, none⟩) 8 8) 8 (rowsV2 zeros8) by rw [hW]; exact HO.out.alloc _)
 have HB := Lib.hid (show Below w.heap.size w W by rw [hW]; exact ext_alloc (ext_trans HB1.out hb12.out) _)
 rw [← hN, ← hW]
 clear hG hN hW HO HGW hb12 BR1 HB1 hs1 hlt1 hi hz0 hz1 hz2 BR0 hbx
 have HF := Lib.hid (fun w h => isFrame_any 1 4 (some ⟨G, 0, none⟩) 8 8 zeros8 w (by decide) h)
 rw [show frB 1 4 zeros8 = true by decide] at HF
 have HT := Lib.hid (fun w => fitsOn_b 1 4 (some ⟨G, 0, none⟩) 8 8 0 true w (by decide) (by decide))
 have HS := Lib.hid (fun w h => showing_any 1 4 (some ⟨G, 0, none⟩) 8 8 zeros8 0 w (by decide) (by decide) (by decide) (by decide) h)
 rw [HZZ.out] at HS
 unfold RetSh at HS
 clear HZZ
 refine (HF.out _ (Reads.of_own HOW.out)).mono ?_
 rintro e w3 ⟨rfl, hb⟩
 have BN3 := Lib.hid (BN.out.ext hb)
 have BR3 := Lib.hid (BR.out.ext hb)
 have HO3 := Lib.hid (own_ext HOW.out hb)
 have HB3 := Lib.hid (ext_trans HB.out hb)
 clear hb BN BR HOW HB
 obtain ⟨p0, p1, p2⟩ := BN3.out.q3
 have ln := BN3.out.lt
 go_wp2_with fail
 refine (HT.out _).mono ?_
 rintro e w4 ⟨rfl, hb⟩
 have BN4 := Lib.hid (BN3.out.ext hb)
 have BR4 := Lib.hid (BR3.out.ext hb)
 have HO4 := Lib.hid (own_ext HO3.out hb)
 have HB4 := Lib.hid (ext_trans HB3.out hb)
 clear hb BN3 BR3 HO3 HB3 p0 p1 p2 ln
 obtain ⟨p0, p1, p2⟩ := BN4.out.q3
 have ln := BN4.out.lt
 go_wp2_with fail
 refine (HS.out _ (Reads.of_own HO4.out)).mono ?_
 rintro e w5 ⟨A, c, rfl, ho, hb⟩
 have BR5 := Lib.hid (BR4.out.ext hb)
 have HO5 := Lib.hid (own_base (base' := w.heap.size) ho HB4.out.size)
 have HB5 := Lib.hid (ext_trans HB4.out hb)
 clear hb ho BN4 BR4 HO4 HB4 p0 p1 p2 ln HF HT HS
 obtain ⟨r0, r1, r2⟩ := BR5.out.q3
 obtain ⟨y0, y1, y2⟩ := BR5.out.z3
 have lr := BR5.out.lt
 go_wp2
 refine bodyPost_ret (v := .tuple #[frV 1 4 A 8 c, .bool true]) (by simp [results, Try.results33, go_sem, *]) rfl ?_
 exact ⟨A, c, rfl, fill_own' HO5.out (own_nbT HO5.out BR5.out (by decide)), fill_below HB5.out (Nat.le_refl _)⟩
end Go.Proofs.Ytfechhacmkajdaa
namespace Go.Proofs.Ytfechhacmkajdaa
open Go.RowKit
set_option linter.unusedVariables false
set_option linter.unusedSimpArgs false
/-- the sum of the digits of m, of which there are at most f -/
def dsZ : Nat → Int → Int
 | 0, _ => 0
 | f + 1, m => m % 10 + dsZ f (m / 10)
theorem dsZ_zero : ∀ f, dsZ f 0 = 0 := by
 intro f
 induction f with
 | zero => rfl
 | succ f ih => show (0 : Int) % 10 + dsZ f (0 / 10) = 0; rw [show (0 : Int) / 10 = 0 from rfl, ih]; rfl
theorem dsZ_bounds : ∀ f m, 0 ≤ dsZ f m ∧ dsZ f m ≤ 9 * f := by
 intro f
 induction f with
 | zero => intro m; exact ⟨Int.le_refl _, Int.le_refl _⟩
 | succ f ih =>
   intro m
   have := ih (m / 10)
   show 0 ≤ m % 10 + dsZ f (m / 10) ∧ m % 10 + dsZ f (m / 10) ≤ _
   omega
theorem dsZ_num : ∀ f (ds : List Int), WF ds → ds.length ≤ f → dsZ f (numD ds) = ds.sum := by
 intro f
 induction f with
 | zero =>
   intro ds _ h
   have h0 : ds = [] := List.eq_nil_of_length_eq_zero (by omega)
   subst h0
   rfl
 | succ f ih =>
   intro ds hw hl
   rcases List.eq_nil_or_concat ds with rfl | ⟨xs, d, rfl⟩
   · exact dsZ_zero _
   · rw [List.concat_eq_append] at *
     have hx : WF xs := fun z hz => hw z (List.mem_append_left _ hz)
     have hd := hw d (by simp)
     rw [numD_snoc, List.sum_append]
     have h1 : (10 * numD xs + d) % 10 = d := by omega
     have h2 : (10 * numD xs + d) / 10 = numD xs := by omega
     show (10 * numD xs + d) % 10 + dsZ f ((10 * numD xs + d) / 10) = _
     rw [h1, h2, ih xs hx (by simp at hl; omega)]
     simp
     omega
theorem sum_set : ∀ (l : List Int) (i : Nat) (a : Int), i < l.length → (l.set i a).sum = l.sum - l.getD i 0 + a := by
 intro l
 induction l with
 | nil => intro i a h; simp at h
 | cons x l ih =>
   intro i a h
   rcases i with _ | i
   · simp
     omega
   · simp only [List.length_cons] at h
     have := ih i a (by omega)
     simp only [List.set_cons_succ, List.sum_cons, List.getD_cons_succ, this]
     omega
theorem addS_sum : ∀ (r : Nat) (d : Int) (s : WS), AddFit r d s.ds → (addS r d s).ds.sum = s.ds.sum + d - 9 * ((addS r d s).ask - s.ask) := by
 intro r
 induction r with
 | zero => intro d s h; have := h.done; subst this; show s.ds.sum = s.ds.sum + 0 - 9 * (s.ask - s.ask); omega
 | succ r ih =>
   intro d s h
   by_cases h0 : 0 < d
   · rw [addS_pos s h0, ih _ _ h.step]
     show (s.ds.set r _).sum + _ - 9 * (_ - (s.ask + _)) = _
     rw [sum_set _ _ _ h.1]
     have hx := h.2.2.2.1.getD r
     have hd := h.2.2.1
     generalize (addS r ((s.ds.getD r 0 + d) / 10) _).ask = q
     by_cases hc : 0 < (s.ds.getD r 0 + d) / 10
     · rw [if_pos hc]; omega
     · rw [if_neg hc]; omega
   · rw [addS_none s h0]
     have := h.2.1
     omega
theorem takeS_sum : ∀ (r : Nat) (d : Int) (s : WS), TakeFit r d s.ds → (takeS r d s).ds.sum = s.ds.sum - d + 9 * ((takeS r d s).ask - s.ask) := by
 intro r
 induction r with
 | zero => intro d s h; have := h.done; subst this; show s.ds.sum = s.ds.sum - 0 + 9 * (s.ask - s.ask); omega
 | succ r ih =>
   intro d s h
   by_cases h0 : 0 < d
   · by_cases hx : d ≤ s.ds.getD r 0
     · rw [takeS_in s h0 hx]
       show (s.ds.set r _).sum = s.ds.sum - d + 9 * (s.ask - s.ask)
       rw [sum_set _ _ _ h.1]
       omega
     · rw [takeS_left s h0 hx, ih _ _ (h.left hx)]
       show (s.ds.set r _).sum - 1 + 9 * (_ - (s.ask + 1)) = _
       rw [sum_set _ _ _ h.1]
       omega
   · rw [takeS_none s h0]
     have := h.2.1
     omega
def dgS (n : Nat) (m : Int) (k : Nat) : Int := ((List.range k).map (dg n m)).sum
theorem dgS_succ (n : Nat) (m : Int) (k : Nat) : dgS n m (k + 1) = dgS n m k + dg n m k := by
 unfold dgS
 rw [List.range_succ, List.map_append, List.sum_append]
 simp
theorem addN_sum {m : Int} {s : WS} (hw : WF s.ds) (h0 : 0 ≤ m) (hm : numD s.ds + m < pw s.ds.length) : ∀ k, k ≤ s.ds.length → (addN s.ds.length m s k).ds.sum = s.ds.sum + dgS s.ds.length m k - 9 * ((addN s.ds.length m s k).ask - s.ask) := by
 intro k
 induction k with
 | zero => intro _; show s.ds.sum = s.ds.sum + 0 - 9 * (s.ask - s.ask); omega
 | succ k ih =>
   intro hk
   have h1 := ih (by omega)
   have h2 := addS_sum _ _ _ ((addN_facts hw h0 hm k (by omega)).2 (by omega))
   rw [addN, h2, h1, dgS_succ]
   omega
theorem takeN_sum {m : Int} {s : WS} (hw : WF s.ds) (h0 : 0 ≤ m) (hm : m ≤ numD s.ds) : ∀ k, k ≤ s.ds.length → (takeN s.ds.length m s k).ds.sum = s.ds.sum - dgS s.ds.length m k + 9 * ((takeN s.ds.length m s k).ask - s.ask) := by
 intro k
 induction k with
 | zero => intro _; show s.ds.sum = s.ds.sum - 0 + 9 * (s.ask - s.ask); omega
 | succ k ih =>
   intro hk
   have h1 := ih (by omega)
   have h2 := takeS_sum _ _ _ ((takeN_facts hw h0 hm k (by omega)).2 (by omega))
   rw [takeN, h2, h1, dgS_succ]
   omega
theorem digs_part (n : Nat) (m : Int) : ∀ k, k ≤ n → numD ((List.range k).map (dg n m)) = m / pw (n - k) - m / pw n * pw k := by
 intro k
 induction k with
 | zero => intro _; simp [numD, pw_zero]
 | succ k ih =>
   intro hk
   rw [List.range_succ, List.map_append, List.map_cons, List.map_nil, numD_snoc, ih (by omega), pw_succ]
   unfold dg
   have h1 : m / pw (n - k) = m / pw (n - (k + 1)) / 10 := by
    rw [pw_place (by omega), Int.mul_comm, ← Int.ediv_ediv_of_nonneg (by have := pw_pos (n - (k + 1)); omega)]
   rw [h1, Int.mul_sub, Int.mul_left_comm]
   omega
theorem digs_sum {n : Nat} {m : Int} (hn : n ≤ 8) (h0 : 0 ≤ m) (h1 : m < pw n) : dgS n m n = dsZ 10 m := by
 have h2 := digs_part n m n (Nat.le_refl _)
 rw [Nat.sub_self, pw_zero, Int.ediv_one, Int.ediv_eq_zero_of_lt h0 h1] at h2
 have hw : WF ((List.range n).map (dg n m)) := by
  intro d hd
  obtain ⟨k, _, rfl⟩ := List.mem_map.1 hd
  exact dg_bounds n m k
 have h3 := dsZ_num 10 _ hw (by simp; omega)
 rw [h2] at h3
 unfold dgS
 rw [← h3]
 congr 1
 omega
theorem num_sum {ds : List Int} (hw : WF ds) (hn : ds.length ≤ 8) : dsZ 10 (numD ds) = ds.sum := dsZ_num 10 ds hw (by omega)
end Go.Proofs.Ytfechhacmkajdaa
namespace Go.Proofs.Ytfechhacmkajdaa
open Go.RowKit
set_option linter.unusedVariables false
set_option linter.unusedSimpArgs false
set_option maxRecDepth 100000 in
set_option maxHeartbeats 2000000 in
theorem nrOn_any (u lo : Int) (A : Option Addr) (n c : Nat) (l : List R2) (w : World) (hn : n ≤ 1048576) (h : Reads w w.heap.size 2 A n (rowsV2 l)) :
 Calls Try.prog 24 #[frV u lo A n c] w fun e w' => e = .returned (.tuple #[.int .i64 (if frB u lo l = true then numR l else 0), .bool (frB u lo l)]) ∧ Below w.heap.size w w' := by
 have H := Lib.hid h
 have hbx := Lib.hid (ext_alloc (ext_refl w) (.cells #[.int .i64 u, .int .i64 lo, .slice A n c] 42))
 have BF0 := Lib.hid (Blk.born w #[.int .i64 u, .int .i64 lo, .slice A n c] 42 (H := w.heap.size) rfl)
 have HI := Lib.hid (fun (w : World) a => isFrame_any u lo A n c l w hn a)
 clear h
 cases hf : frB u lo l
 · rw [hf] at HI
   rw [if_neg (by decide)]
   go_enter Try.func24, Try.ntmps24
   go_wp2_with fail
   refine (HI.out _ (rdx H.out hbx.out)).mono ?_
   rintro e w1 ⟨rfl, hb⟩
   go_wp2
   go_ret2
   exact ⟨rfl, ext_trans hbx.out hb⟩
 · rw [hf] at HI
   rw [if_pos rfl]
   have HF := Lib.hid hf
   clear hf
   go_enter Try.func24, Try.ntmps24
   go_wp2_with fail
   refine (HI.out _ (rdx H.out hbx.out)).mono ?_
   rintro e w1 ⟨rfl, hb⟩
   have BF1 := Lib.hid (BF0.out.ext hb)
   have HB1 := Lib.hid (ext_trans hbx.out hb)
   clear hb
   obtain ⟨d0, d1, d2⟩ := BF1.out.q3
   have lf := BF1.out.lt
   go_wp2_with fail
   refine (number_any u lo A n c l _ HF.out (rdx H.out HB1.out)).mono ?_
   rintro e w2 ⟨rfl, hb⟩
   go_wp2
   go_ret2
   exact ⟨rfl, ext_trans HB1.out hb⟩
end Go.Proofs.Ytfechhacmkajdaa
