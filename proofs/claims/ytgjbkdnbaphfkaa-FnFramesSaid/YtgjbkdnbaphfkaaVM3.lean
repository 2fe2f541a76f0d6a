/- Frames of their own; the moves that turn a rod. -/
import Derived.Test.YtgjbkdnbaphfkaaVFrA
import Derived.Test.YtgjbkdnbaphfkaaVAp
import Derived.Deep.RegionLaw
import Derived.Test.YtgjbkdnbaphfkaaVM1
import Derived.Test.YtgjbkdnbaphfkaaVRegL
namespace Go.Proofs.Ytgjbkdnbaphfkaa
open Go.RowKit
set_option linter.unusedVariables false
set_option linter.unusedSimpArgs false
theorem info_rod : (Try.prog.info? 41).map (fun i => (i.zero, i.size, i.bytes)) = some (some (.agg #[.int .i64 0, .int .i64 0]), 2, 16) := by kernel_rfl
theorem rows2_one (l : List R2) : ∀ u ∈ rowsV2 l, u.oneCell' = true := by
 intro u hu
 obtain ⟨r, _, hr⟩ := List.mem_flatMap.1 hu
 simp only [R2.cells, List.mem_cons, List.not_mem_nil, or_false] at hr
 rcases hr with rfl | rfl <;> rfl
theorem rows3_one (l : List R3) : ∀ u ∈ rowsV3 l, u.oneCell' = true := by
 intro u hu
 obtain ⟨r, _, hr⟩ := List.mem_flatMap.1 hu
 simp only [R3.cells, List.mem_cons, List.not_mem_nil, or_false] at hr
 rcases hr with rfl | rfl | rfl <;> rfl
theorem rowsV3_app (l m : List R3) : rowsV3 (l ++ m) = rowsV3 l ++ rowsV3 m := by simp [rowsV3]
theorem rowsV2_app (l m : List R2) : rowsV2 (l ++ m) = rowsV2 l ++ rowsV2 m := by simp [rowsV2]
/-- a frame with rods of its own comes back -/
def RetFr (w : World) (u lo : Int) (n : Nat) (xs : List Value) (e : Ending) (w' : World) : Prop :=
 ∃ g c, e = .returned (frV u lo (some ⟨g, 0, none⟩) n c) ∧ w'.ownsRow w.heap.size 41 2 (.slice (some ⟨g, 0, none⟩) n c) n xs ∧ Below w.heap.size w w'
set_option maxRecDepth 100000 in
set_option maxHeartbeats 1000000 in
theorem own_fr (u lo : Int) (A : Option Addr) (n c : Nat) (l : List R2) (w : World) (hn1 : 1 ≤ n) (hn : n ≤ 1048576) (h : Reads w w.heap.size 2 A n (rowsV2 l)) :
 Calls Try.prog 45 #[frV u lo A n c] w (RetFr w u lo n (rowsV2 l)) := by
 obtain ⟨i0, hi, hz0, hz1, hz2⟩ := info_parts info_rod
 have H := Lib.hid h
 clear h
 go_enter Try.func45, Try.ntmps45
 go_wp2_with (at_builtin; refine wpList_appNew rfl (.tmp 3) (.tmp 5) 24 41 rfl i0 _ 2 16 (w.heap.size + 1 + 1) Try.underlying24 hi hz0 hz1 hz2 rfl (by decide) rfl (by simp) A n c (rowsV2 l) rfl w.heap.size (by omega) (H.out.below (ext_alloc (ext_alloc (ext_refl w) _) _)) (by simp; omega) (rows2_one l) (by unfold maxLen; omega) (by omega) ?_; intro g' cap w2 hown hb2 hs2; have BF2 := ((Blk.born w #[.int .i64 u, .int .i64 lo, .slice A n c] 26 rfl).al (.cells #[.int .i64 0, .int .i64 0, .slice none 0 0] 26)).ext hb2; have BR2 := (Blk.born (w.alloc (.cells #[.int .i64 u, .int .i64 lo, .slice A n c] 26)) #[.int .i64 0, .int .i64 0, .slice none 0 0] 26 (H := w.heap.size + 1) (by simp)).ext hb2; obtain ⟨a0, a1, a2⟩ := BF2.q3; obtain ⟨f0, f1, f2⟩ := BF2.z3; obtain ⟨e0, e1, e2⟩ := BR2.q3; obtain ⟨k0, k1, k2⟩ := BR2.z3; clear BF2 BR2; simp at hs2; have hz3 : w.heap.size + 1 < w2.heap.size := (by omega); have hz4 : w.heap.size < w2.heap.size := (by omega); have hown := Lib.hid (own_base (base' := w.heap.size + 1 + 1) hown (by simp)); have hb2 := Lib.hid hb2)
 refine bodyPost_ret (v := frV u lo (some ⟨g', 0, none⟩) n cap) (by simp [results, Try.results45, go_sem, *]) rfl ?_
 have hb3 := hb2.out
 refine ⟨g', cap, rfl, ?_, (by repeat (first | exact ext_refl _ | assumption | refine ext_alloc ?_ _ | refine ext_drew ?_ | refine ext_drewN ?_ _ | refine ext_set ?_ (by simp <;> omega) _ | refine ext_trans ?_ (by assumption)))⟩
 iterate 4 refine own_setF ?_ (own_far_lt hown.out (by dsimp only; omega)) _
 exact own_base hown.out (by omega)
def cmp (r : R2) (k : Nat) : Int := if k = 0 then r.a else r.b
def mvTo (rod : Int) (a b : R2) : Nat → List R3
 | 0 => []
 | k + 1 => mvTo rod a b k ++ (if cmp b k - cmp a k = 0 then [] else [⟨rod, (k : Int), cmp b k - cmp a k⟩])
theorem mvTo_two (rod : Int) (a b : R2) : mvTo rod a b 2 = mvR rod a b := by simp [mvTo, mvR, cmp]
theorem mvTo_len (rod : Int) (a b : R2) (k : Nat) : (mvTo rod a b k).length ≤ k := by
 induction k with
 | zero => simp [mvTo]
 | succ k ih => rw [mvTo, List.length_append]; split <;> simp <;> omega
theorem mvTo_same {rod : Int} {a b : R2} {k : Nat} (h : cmp b k - cmp a k = 0) : mvTo rod a b (k + 1) = mvTo rod a b k := by rw [mvTo, if_pos h]; simp
theorem mvTo_more {rod : Int} {a b : R2} {k : Nat} (h : ¬ cmp b k - cmp a k = 0) : mvTo rod a b (k + 1) = mvTo rod a b k ++ [⟨rod, (k : Int), cmp b k - cmp a k⟩] := by rw [mvTo, if_neg h]
/-- small numbers on a rod -/
def Sm (r : R2) : Prop := (-1000 ≤ r.a ∧ r.a ≤ 1000) ∧ -1000 ≤ r.b ∧ r.b ≤ 1000
theorem Sm.cmp {r : R2} (h : Sm r) (k : Nat) : -1000 ≤ cmp r k ∧ cmp r k ≤ 1000 := by unfold Sm at h; unfold Go.Proofs.Ytgjbkdnbaphfkaa.cmp; split <;> omega
theorem two_cells {r : R2} {w : World} {b : Nat} {t : TypeId} (h : Blk w b t #[.int .i64 r.a, .int .i64 r.b]) {k : Nat} (hk : k < 2) : w.cell? ⟨b, k, none⟩ = some (.int .i64 (cmp r k)) := by
 rw [h.cell]
 rcases (show k = 0 ∨ k = 1 by omega) with rfl | rfl <;> simp [cmp]
theorem turnM_eq (r : Nat) (x v : Int) : mvR r (rodD x) (rodD v) = turnM r x v := rfl
theorem rodD_Sm {d : Int} (h0 : 0 ≤ d) (h1 : d ≤ 99) : Sm (rodD d) := by unfold Sm rodD; dsimp only; omega
end Go.Proofs.Ytgjbkdnbaphfkaa
namespace Go.Proofs.Ytgjbkdnbaphfkaa
open Go.RowKit
set_option linter.unusedVariables false
set_option linter.unusedSimpArgs false
theorem Wk.ext {w w' : World} {B g : Nat} {u lo : Int} {s : WS} (h : Wk w B g u lo s) (hb : Below w.heap.size w w') : Wk w' B g u lo s := by
 obtain ⟨h, c, c', A, h1, h2, h3, h4⟩ := h
 exact ⟨h, c, c', A, h1.ext hb, h2, own_ext h3 hb, own_ext h4 hb⟩
theorem Wk.lt {w : World} {B g : Nat} {u lo : Int} {s : WS} (h : Wk w B g u lo s) : B ≤ g ∧ g < w.heap.size := by
 obtain ⟨h, c, c', A, h1, h2, _⟩ := h
 exact ⟨h2, h1.lt⟩
/-- the cells of rod r -/
theorem rods_cells {w : World} {B h n c : Nat} {ds : List Int} (hr : w.ownsRow B 41 2 (.slice (some ⟨h, 0, none⟩) n c) n (rowsV2 (rodsD ds))) {r : Nat} {d : Int} (hd : ds[r]? = some d) :
 w.cell? ⟨h, r * 2, none⟩ = some (.int .i64 (d / 5)) ∧ w.cell? ⟨h, r * 2 + 1, none⟩ = some (.int .i64 (d % 5)) ∧ h < w.heap.size ∧ B ≤ h := by
 obtain ⟨b, o, hA, hb, c0, c1⟩ := rows_at2 (Reads.of_own hr) (rodsD_get hd)
 injection hA with hA
 injection hA with hA1 hA2
 subst hA1 hA2
 rw [Nat.zero_add] at c0 c1
 exact ⟨c0, c1, hb, (hr.lt _ rfl).1⟩
theorem own_frozen {w : World} {B e size h n c : Nat} {xs : List Value} (hr : w.ownsRow B e size (.slice (some ⟨h, 0, none⟩) n c) n xs) (i : Nat) : w.frozen? ⟨h, i, none⟩ = false := by
 rcases hr.2 with ⟨h0, _⟩ | ⟨g', cap, cur, hv, _, hh, _⟩
 · cases h0
 · injection hv with hv
   injection hv with hv
   injection hv with hv
   subst hv
   exact Blk.frozen hh i
theorem rowsV2_set : ∀ (l : List R2) (i : Nat) (r : R2), i < l.length → rowsV2 (l.set i r) = ((rowsV2 l).set (i * 2) (.int .i64 r.a)).set (i * 2 + 1) (.int .i64 r.b) := by
 intro l
 induction l with
 | nil => intro i r h; simp at h
 | cons x l ih =>
   intro i r h
   rcases i with _ | i
   · simp [rowsV2, R2.cells]
   · have := ih i r (by simpa using h)
     have e : ∀ y : R2, ∀ m : List R2, rowsV2 (y :: m) = R2.cells y ++ rowsV2 m := fun y m => by simp [rowsV2]
     rw [List.set_cons_succ, e, e, this]
     have hl : (R2.cells x).length = 2 := rfl
     rw [List.set_append_right _ _ (by rw [hl]; omega), List.set_append_right _ _ (by rw [hl]; omega), hl]
     congr 2
     · congr 1; omega
     · omega
theorem KeepT.refl (w : World) : KeepT w w := ⟨Nat.le_refl _, fun _ _ _ h _ _ _ => h⟩
theorem KeepT.trans {w w1 w2 : World} (h : KeepT w w1) (k : KeepT w1 w2) : KeepT w w2 := ⟨Nat.le_trans h.1 k.1, fun b t cs hb h1 h2 h3 => k.2 b t cs (h.2 b t cs hb h1 h2 h3) h1 h2 h3⟩
theorem KeepT.of_ext {w w' : World} (h : Below w.heap.size w w') : KeepT w w' := ⟨h.size, fun _ _ _ hb _ _ _ => hb.ext h⟩
theorem blk_ne {w : World} {g b : Nat} {t e : TypeId} {cs ds : Array Value} (h : Blk w g t cs) (k : Blk w b e ds) (hne : t ≠ e) : g ≠ b := by
 rintro rfl
 unfold Blk at h k
 rw [h] at k
 injection k with k
 injection k with _ k
 exact hne k
/-- what a turn leaves -/
def Turned (w : World) (B g : Nat) (u lo : Int) (s : WS) (e : Ending) (w' : World) : Prop := e = .returned (.tuple #[]) ∧ Wk w' B g u lo s ∧ Below B w w' ∧ KeepT w w'
end Go.Proofs.Ytgjbkdnbaphfkaa
namespace Go.Proofs.Ytgjbkdnbaphfkaa
open Go.RowKit
set_option linter.unusedVariables false
set_option linter.unusedSimpArgs false
theorem addS_step {k : Nat} {d x : Int} {t : WS} (hx : t.ds[k]? = some x) (h : 0 < d) : addS (k + 1) d t = addS k ((x + d) / 10) ⟨t.ds.set k ((x + d) % 10), t.ms ++ turnM k x ((x + d) % 10), t.ask + if 0 < (x + d) / 10 then 1 else 0⟩ := by
 have e : t.ds.getD k 0 = x := by rw [List.getD_eq_getElem?_getD, hx]; rfl
 rw [addS_pos t h, e]
theorem AddFit.next {k : Nat} {d x : Int} {ds : List Int} (hx : ds[k]? = some x) (h : AddFit (k + 1) d ds) : AddFit k ((x + d) / 10) (ds.set k ((x + d) % 10)) := by
 have e : ds.getD k 0 = x := by rw [List.getD_eq_getElem?_getD, hx]; rfl
 have := h.step
 rwa [e] at this
theorem AddFit.zero {k : Nat} {ds : List Int} (h : AddFit k 0 ds) (hk : k < ds.length) : AddFit (k + 1) 0 ds := by
 obtain ⟨h1, h2, h3, h4, h5⟩ := h
 exact ⟨hk, h2, h3, h4, by simpa using h5⟩
theorem addS_zero (a b : Nat) (t : WS) : addS a 0 t = addS b 0 t := by rw [addS_none (r := a) t (by omega), addS_none (r := b) t (by omega)]
theorem takeS_step1 {k : Nat} {d x : Int} {t : WS} (hx : t.ds[k]? = some x) (h : 0 < d) (hd : d ≤ x) : takeS (k + 1) d t = ⟨t.ds.set k (x - d), t.ms ++ turnM k x (x - d), t.ask⟩ := by
 have e : t.ds.getD k 0 = x := by rw [List.getD_eq_getElem?_getD, hx]; rfl
 rw [takeS_in t h (by rw [e]; exact hd), e]
theorem takeS_step2 {k : Nat} {d x : Int} {t : WS} (hx : t.ds[k]? = some x) (h : 0 < d) (hd : ¬ d ≤ x) : takeS (k + 1) d t = takeS k 1 ⟨t.ds.set k (x - d + 10), t.ms ++ turnM k x (x - d + 10), t.ask + 1⟩ := by
 have e : t.ds.getD k 0 = x := by rw [List.getD_eq_getElem?_getD, hx]; rfl
 rw [takeS_left t h (by rw [e]; exact hd), e]
theorem TakeFit.next {k : Nat} {d x : Int} {ds : List Int} (hx : ds[k]? = some x) (h : TakeFit (k + 1) d ds) (hd : ¬ d ≤ x) : TakeFit k 1 (ds.set k (x - d + 10)) := by
 have e : ds.getD k 0 = x := by rw [List.getD_eq_getElem?_getD, hx]; rfl
 have := h.left (by rw [e]; exact hd)
 rwa [e] at this
theorem Wk.asked {w : World} {B g : Nat} {u lo z : Int} {s : WS} (h : Wk w B g u lo s) : Wk (w.setCell ⟨g, 4, none⟩ (.int .i64 z)) B g u lo ⟨s.ds, s.ms, z⟩ := by
 obtain ⟨h, c, c', A, h1, h2, h3, h4⟩ := h
 exact ⟨h, c, c', A, h1.set_ 4 _, h2, own_setF (p := ⟨g, 4, none⟩) h3 (own_nbT h3 h1 (by decide)) _, own_setF (p := ⟨g, 4, none⟩) h4 (own_nbT h4 h1 (by decide)) _⟩
theorem Wk.askedK {w0 w : World} {B g : Nat} {u lo z : Int} {s : WS} (h : Wk w B g u lo s) (hk : KeepT w0 w) : KeepT w0 (w.setCell ⟨g, 4, none⟩ (.int .i64 z)) := by
 obtain ⟨h, c, c', A, h1, _⟩ := h
 exact hk.set h1 (.inl rfl) 4 _
theorem Wk.ask_cell {w : World} {B g : Nat} {u lo : Int} {s : WS} (h : Wk w B g u lo s) : w.cell? ⟨g, 4, none⟩ = some (.int .i64 s.ask) ∧ w.frozen? ⟨g, 4, none⟩ = false := by
 obtain ⟨h, c, c', A, h1, _⟩ := h
 exact ⟨h1.c4, h1.frozen 4⟩
end Go.Proofs.Ytgjbkdnbaphfkaa
namespace Go.Proofs.Ytgjbkdnbaphfkaa
open Go.RowKit
set_option linter.unusedVariables false
set_option linter.unusedSimpArgs false
/-- what is read stays in a world that only has more -/
theorem rdx {w w' : World} {size n : Nat} {A : Option Addr} {xs : List Value} (h : Reads w w.heap.size size A n xs) (hb : Below w.heap.size w w') : Reads w' w'.heap.size size A n xs := (h.below hb).more hb.size
def goodB (u lo : Int) (l : List R2) : Bool := frB u lo l && stdB l
/-- nothing comes back but this -/
def RetV (v : Value) (w : World) (e : Ending) (w' : World) : Prop := e = .returned v ∧ Below w.heap.size w w'
/-- a worker comes back -/
def RetWk (w : World) (u lo : Int) (s : WS) (e : Ending) (w' : World) : Prop := ∃ g, e = .returned (.tuple #[.pointer (some ⟨g, 0, none⟩), .bool true]) ∧ Wk w' w.heap.size g u lo s ∧ Below w.heap.size w w'
theorem Wk.mono {w : World} {B B' g : Nat} {u lo : Int} {s : WS} (h : Wk w B g u lo s) (hB : B' ≤ B) : Wk w B' g u lo s := by
 obtain ⟨h, c, c', A, h1, h2, h3, h4⟩ := h
 exact ⟨h, c, c', A, h1, by omega, own_base h3 hB, own_base h4 hB⟩
theorem fitsOn_b (u lo : Int) (A : Option Addr) (n c : Nat) (m : Int) (b : Bool) (w : World) (hn : n ≤ 8) (hb : inB m 0 (pw n - 1) = b) :
 Calls Try.prog 30 #[frV u lo A n c, .int .i64 m] w fun e w' => e = .returned (.bool b) ∧ Below w.heap.size w w' := by
 subst hb
 exact fitsOn_any u lo A n c m w hn
/-- what can be added -/
def canB (l : List R2) (m : Int) : Bool := inB m 0 (pw l.length - 1) && inB (numR l + m) 0 (pw l.length - 1)
end Go.Proofs.Ytgjbkdnbaphfkaa
namespace Go.Proofs.Ytgjbkdnbaphfkaa
open Go.RowKit
set_option linter.unusedVariables false
set_option linter.unusedSimpArgs false
/-- the box of a frame, behind it only more -/
theorem box_frame {w wr : World} {u lo : Int} {A : Option Addr} {n c : Nat} (hb : Below (w.heap.size + 1) (w.alloc (.cells #[.int .i64 u, .int .i64 lo, .slice A n c] 26)) wr) :
 Blk wr w.heap.size 26 #[.int .i64 u, .int .i64 lo, .slice A n c] ∧ Below w.heap.size w wr ∧ w.heap.size < wr.heap.size := by
 have hs := hb.size
 simp at hs
 exact ⟨(Blk.born w _ _ rfl).below hb (by omega), ((ext_refl w).alloc (Nat.le_refl _) _).trans (hb.mono (Nat.le_succ _)), by omega⟩
theorem l1In_b (n lo hi : Int) (b : Bool) (w : World) (hb : inB n lo hi = b) :
 Calls Try.prog 40 #[.int .i64 n, .int .i64 lo, .int .i64 hi] w fun e w' => e = .returned (.bool b) ∧ Below w.heap.size w w' := by
 subst hb
 exact (inB_l1In n lo hi w).mono fun e w' ⟨h, hw⟩ => ⟨h, by rw [← hw]; exact ext_refl _⟩
set_option maxRecDepth 100000 in
set_option maxHeartbeats 1000000 in
theorem l2Good_any (u lo : Int) (A : Option Addr) (n c : Nat) (l : List R2) (w : World) (hn : n ≤ 1048576) (h : Reads w w.heap.size 2 A n (rowsV2 l)) :
 Calls Try.prog 22 #[frV u lo A n c] w (RetV (.bool (frB u lo l)) w) := by
 have hl := rows_len2 h
 have H := Lib.hid h
 have HL := Lib.hid hl
 clear h hl
 have E : Hid (frB u lo l = (inB u 1 2 && inB lo 4 5 && inB n 1 8 && l.all (rodB u lo))) := Lib.hid (by rw [← HL.out]; rfl)
 go_enter Try.func22, Try.ntmps22
 go_wp2
 go_loopw [3] (fun i wr => ∃ k : Nat, k ≤ n ∧ i = .int .i64 k ∧ Hid (Below (w.heap.size + 1) (w.alloc (.cells #[.int .i64 u, .int .i64 lo, .slice A n c] 26)) wr) ∧ Hid ((l.take k).all (rodB u lo) = true)) (fun i _ => n - (intOf i).toNat)
 case atStart => exact ⟨0, Nat.zero_le _, rfl, Lib.hid (Below.refl _ _), Lib.hid rfl⟩
 case round =>
  obtain ⟨k, hk, rfl, hbl, hok⟩ := hrel
  obtain ⟨BF, hb0, hs0⟩ := box_frame hbl.out
  have hb0 := Lib.hid hb0
  obtain ⟨d0, d1, d2⟩ := BF.q3
  clear BF
  by_cases hlt : k < n
  · obtain ⟨r, hr⟩ := list_split (l := l) (k := k) (by rw [HL.out]; exact hlt)
    obtain ⟨b, o, rfl, hb, c0, c1⟩ := rows_at2 (rdx H.out hb0.out) hr
    cases ha : inB r.a 0 u
    · have hbad := Lib.hid (all_bad (p := rodB u lo) hr (by simp [rodB, ha]))
      clear hr
      go_wp2
      (refine wp_region_later (by kernel_rfl) (by kernel_rfl) ?_; (repeat (go_big_quiet_step (first | (go_at_call 40; with_reducible exact Calls.later_of (l1In_b _ _ _ _ _ ha))))); refine wpQuiet_nil ?_; intro w1 hw1; obtain ⟨⟨wl, hbL⟩, hw1'⟩ := hw1; simp only at hw1'; subst hw1'; obtain ⟨hcL, hfL⟩ := bcell hbL)
      have hb3 := Lib.hid (ext_trans hb0.out hbL)
      clear hbL hcL hfL
      go_wp2
      go_ret
      exact ⟨ret_bool (by rw [E.out, hbad.out]; simp), hb3.out⟩
    cases hb2 : inB r.b 0 lo
    · have hbad := Lib.hid (all_bad (p := rodB u lo) hr (by simp [rodB, ha, hb2]))
      clear hr
      go_wp2
      (refine wp_region_later (by kernel_rfl) (by kernel_rfl) ?_; (repeat (go_big_quiet_step (first | (go_at_call 40; with_reducible exact Calls.later_of (l1In_b _ _ _ _ _ ha)) | (go_at_call 40; with_reducible exact Calls.later_of (l1In_b _ _ _ _ _ hb2))))); refine wpQuiet_nil ?_; intro w1 hw1; obtain ⟨⟨wl, hbL⟩, hw1'⟩ := hw1; simp only at hw1'; subst hw1'; obtain ⟨hcL, hfL⟩ := bcell hbL)
      have hb3 := Lib.hid (ext_trans hb0.out hbL)
      clear hbL hcL hfL
      go_wp2
      go_ret
      exact ⟨ret_bool (by rw [E.out, hbad.out]; simp), hb3.out⟩
    have hgood := Lib.hid (all_snoc hok.out hr (by simp [rodB, ha, hb2]))
    clear hr
    go_wp2
    (refine wp_region_later (by kernel_rfl) (by kernel_rfl) ?_; (repeat (go_big_quiet_step (first | (go_at_call 40; with_reducible exact Calls.later_of (l1In_b _ _ _ _ _ ha)) | (go_at_call 40; with_reducible exact Calls.later_of (l1In_b _ _ _ _ _ hb2))))); refine wpQuiet_nil ?_; intro w1 hw1; obtain ⟨⟨wl, hbL⟩, hw1'⟩ := hw1; simp only at hw1'; subst hw1'; obtain ⟨hcL, hfL⟩ := bcell hbL)
    go_wp2
    go_roundw
    case rel => exact ⟨k + 1, by omega, by go_num, Lib.hid (hbl.out.trans (hbL.mono hs0)), hgood⟩
    case measure => simp [intOf]; omega
  · obtain rfl : k = n := by omega
    have hall := Lib.hid (all_whole hok.out (by rw [HL.out]; exact Nat.le_refl _))
    cases h1 : inB u 1 2
    · go_wp2_with (go_at_call 40; refine (inB_l1In _ _ _ _).mono ?_; rintro e w' ⟨rfl, rfl⟩)
      go_ret
      exact ⟨ret_bool (by rw [E.out, h1]; rfl), hb0.out⟩
    cases h2 : inB lo 4 5
    · go_wp2_with (go_at_call 40; refine (inB_l1In _ _ _ _).mono ?_; rintro e w' ⟨rfl, rfl⟩)
      go_ret
      exact ⟨ret_bool (by rw [E.out, h1, h2]; rfl), hb0.out⟩
    cases h3 : inB (k : Int) 1 8
    · go_wp2_with (go_at_call 40; refine (inB_l1In _ _ _ _).mono ?_; rintro e w' ⟨rfl, rfl⟩)
      go_ret
      exact ⟨ret_bool (by rw [E.out, h1, h2, h3]; rfl), hb0.out⟩
    go_wp2_with (go_at_call 40; refine (inB_l1In _ _ _ _).mono ?_; rintro e w' ⟨rfl, rfl⟩)
    go_ret
    exact ⟨ret_bool (by rw [E.out, h1, h2, h3, hall.out]; rfl), hb0.out⟩
theorem l2Value_any (r : R2) (w : World) (h : Sm r) :
 Calls Try.prog 47 #[r.val] w fun e w' => e = .returned (.int .i64 (dv r)) ∧ Below w.heap.size w w' := by
 obtain ⟨⟨h1, h2⟩, h3, h4⟩ := h
 go_enter Try.func47, Try.ntmps47
 go_wp2
 go_ret
 exact ⟨rfl, (by repeat (first | exact ext_refl _ | assumption | refine ext_alloc ?_ _ | refine ext_drew ?_ | refine ext_drewN ?_ _ | refine ext_set ?_ (by simp <;> omega) _ | refine ext_trans ?_ (by assumption)))⟩
theorem frB_Sm {u lo : Int} {l : List R2} (h : frB u lo l = true) {k : Nat} {r : R2} (hr : l[k]? = some r) : Sm r := by
 have h1 := frB_rod h hr
 have h2 := frB_head h
 unfold Sm
 omega
set_option maxHeartbeats 1000000 in
theorem l2Number_any (u lo : Int) (A : Option Addr) (n c : Nat) (l : List R2) (w : World) (hf : frB u lo l = true) (h : Reads w w.heap.size 2 A n (rowsV2 l)) :
 Calls Try.prog 33 #[frV u lo A n c] w fun e w' => e = .returned (.int .i64 (numR l)) ∧ Below w.heap.size w w' := by
 have hl := rows_len2 h
 obtain ⟨hu, hlo, hn1, hn8⟩ := frB_head hf
 rw [hl] at hn1 hn8
 have HF := Lib.hid hf
 have H := Lib.hid h
 have HL := Lib.hid hl
 clear h hl hf
 go_enter Try.func33, Try.ntmps33
 go_wp2
 go_loopw [3, 4] (fun s i wr => ∃ k : Nat, k ≤ n ∧ i = .int .i64 k ∧ s = .int .i64 (numR (l.take k)) ∧ Hid (Below (w.heap.size + 1) (w.alloc (.cells #[.int .i64 u, .int .i64 lo, .slice A n c] 26)) wr)) (fun _ i _ => n - (intOf i).toNat)
 case atStart => exact ⟨0, Nat.zero_le _, rfl, rfl, Lib.hid (Below.refl _ _)⟩
 case round =>
  obtain ⟨k, hk, rfl, rfl, hbl⟩ := hrel
  obtain ⟨BF, hb0, hs0⟩ := box_frame hbl.out
  have hb0 := Lib.hid hb0
  obtain ⟨d0, d1, d2⟩ := BF.q3
  clear BF
  obtain ⟨m0, m1⟩ := numR_bounds HF.out k
  by_cases hlt : k < n
  · obtain ⟨r, hr⟩ := list_split (l := l) (k := k) (by rw [HL.out]; exact hlt)
    obtain ⟨b, o, rfl, hb, c0, c1⟩ := rows_at2 (rdx H.out hb0.out) hr
    have hsm := frB_Sm HF.out hr
    obtain ⟨r1, r2, r3, r4⟩ := frB_rod HF.out hr
    have hnew := Lib.hid (numR_take hr)
    have hv0 : 0 ≤ dv r := by unfold dv; omega
    have hv1 : dv r ≤ 1000 := by unfold dv; omega
    have hdv := Lib.hid (show dv r = 5 * r.a + r.b from rfl)
    clear hr
    generalize numR (l.take k) = M at *
    go_wp2_with fail
    refine (l2Value_any r _ hsm).mono ?_
    rintro e w1 ⟨rfl, hb1⟩
    go_wp2
    go_roundw
    case rel => exact ⟨k + 1, by omega, by go_num, by rw [hnew.out, ← hdv.out], Lib.hid (hbl.out.trans (hb1.mono hs0))⟩
    case measure => simp [intOf]; omega
  · obtain rfl : k = n := by omega
    have hall := Lib.hid (numR_all l k (by rw [HL.out]; exact Nat.le_refl _))
    go_wp2
    go_ret
    exact ⟨ret_int (by rw [hall.out]), hb0.out⟩
theorem goodB_comm (u lo : Int) (l : List R2) : goodB u lo l = (stdB l && frB u lo l) := by unfold goodB; exact Bool.and_comm _ _
set_option maxHeartbeats 1000000 in
theorem l2Standard_any (u lo : Int) (A : Option Addr) (n c : Nat) (l : List R2) (w : World) (hn : n ≤ 1048576) (h : Reads w w.heap.size 2 A n (rowsV2 l)) :
 Calls Try.prog 38 #[frV u lo A n c] w (RetV (.bool (goodB u lo l)) w) := by
 have hl := rows_len2 h
 have H := Lib.hid h
 have HL := Lib.hid hl
 clear h hl
 go_enter Try.func38, Try.ntmps38
 go_wp2
 go_loopw [3] (fun i wr => ∃ k : Nat, k ≤ n ∧ i = .int .i64 k ∧ Hid (Below (w.heap.size + 1) (w.alloc (.cells #[.int .i64 u, .int .i64 lo, .slice A n c] 26)) wr) ∧ Hid ((l.take k).all stdR = true)) (fun i _ => n - (intOf i).toNat)
 case atStart => exact ⟨0, Nat.zero_le _, rfl, Lib.hid (Below.refl _ _), Lib.hid rfl⟩
 case round =>
  obtain ⟨k, hk, rfl, hbl, hok⟩ := hrel
  obtain ⟨BF, hb0, hs0⟩ := box_frame hbl.out
  have hb0 := Lib.hid hb0
  obtain ⟨d0, d1, d2⟩ := BF.q3
  clear BF
  by_cases hlt : k < n
  · obtain ⟨r, hr⟩ := list_split (l := l) (k := k) (by rw [HL.out]; exact hlt)
    obtain ⟨b, o, rfl, hb, c0, c1⟩ := rows_at2 (rdx H.out hb0.out) hr
    by_cases hgd : r.a ≤ 1 ∧ r.b ≤ 4
    · have hgood := Lib.hid (all_snoc hok.out hr (std_good hgd.1 hgd.2))
      obtain ⟨g1, g2⟩ := hgd
      clear hr
      go_wp2
      go_roundw
      case rel => exact ⟨k + 1, by omega, by go_num, hbl, hgood⟩
      case measure => simp [intOf]; omega
    · have hbad := Lib.hid (all_bad hr (std_bad hgd))
      clear hr
      go_wp2
      all_goals first
       | (go_ret; exact ⟨ret_bool (by rw [goodB_comm]; unfold stdB; rw [hbad.out]; rfl), hb0.out⟩)
       | (exfalso; omega)
  · obtain rfl : k = n := by omega
    have hall := Lib.hid (show goodB u lo l = frB u lo l by rw [goodB_comm]; unfold stdB; rw [all_whole hok.out (by rw [HL.out]; exact Nat.le_refl _)]; rfl)
    go_wp2_with fail
    refine (l2Good_any u lo A k c l _ hn (rdx H.out hb0.out)).mono ?_
    rw [← hall.out]
    rintro e w1 ⟨rfl, hb1⟩
    go_wp2
    go_ret
    exact ⟨rfl, ext_trans hb0.out hb1⟩
theorem l2Power_any (z : Int) (n : Nat) (w : World) (hz : z = n) (hn : n ≤ 8) :
 Calls Try.prog 34 #[.int .i64 z] w fun e w' => e = .returned (.int .i64 (pw n)) ∧ w = w' := by
 subst hz
 go_enter Try.func34, Try.ntmps34
 go_wp2
 go_loop [3, 4] (fun p i => ∃ k : Nat, k ≤ n ∧ i = .int .i64 (k : Int) ∧ p = .int .i64 (pw k)) (fun _ i => n - (intOf i).toNat)
 case atStart => exact ⟨0, Nat.zero_le _, rfl, rfl⟩
 case round =>
  obtain ⟨k, hk, rfl, rfl⟩ := hrel
  have hp0 := pw_pos k
  have hp1 := pw_lt (n := k) (by omega)
  have hs := Lib.hid (pw_succ k)
  by_cases hlt : k < n
  · generalize pw k = P at *
    go_wp2
    go_round
    case rel => exact ⟨k + 1, by omega, by go_num, by rw [hs.out]⟩
    case measure => simp [intOf]; omega
  · obtain rfl : k = n := by omega
    go_wp2
    go_ret
    exact ⟨rfl, rfl⟩
theorem l2Digit_any (d : Int) (w : World) (h0 : 0 ≤ d) (h1 : d ≤ 1000) :
 Calls Try.prog 48 #[.int .i64 d] w fun e w' => e = .returned (rodD d).val ∧ Below w.heap.size w w' := by
 go_enter Try.func48, Try.ntmps48
 go_wp2
 refine bodyPost_ret (v := .agg #[.int .i64 (d / 5), .int .i64 (d % 5)]) (by simp [results, Try.results48, go_sem]) rfl ⟨rfl, (by repeat (first | exact ext_refl _ | assumption | refine ext_alloc ?_ _ | refine ext_drew ?_ | refine ext_drewN ?_ _ | refine ext_set ?_ (by simp <;> omega) _ | refine ext_trans ?_ (by assumption)))⟩
end Go.Proofs.Ytgjbkdnbaphfkaa
namespace Go.Proofs.Ytgjbkdnbaphfkaa
open Go.RowKit
set_option linter.unusedVariables false
set_option linter.unusedSimpArgs false
/-- the digits of m for n rods, from the left -/
def digs (n : Nat) (m : Int) : List Int := (List.range n).map (dg n m)
theorem digs_len (n : Nat) (m : Int) : (digs n m).length = n := by simp [digs]
theorem digs_get {n k : Nat} (m : Int) (h : k < n) : (digs n m)[k]? = some (dg n m k) := by simp [digs, h]
/-- the last j of them, zeros before -/
def digsTo (n : Nat) (m : Int) (j : Nat) : List Int := (List.range n).map fun i => if n - j ≤ i then dg n m i else 0
theorem digsTo_zero (n : Nat) (m : Int) : digsTo n m 0 = List.replicate n 0 := by
 apply List.ext_getElem?
 intro i
 unfold digsTo
 by_cases h : i < n
 · have : ¬ n ≤ i := by omega
   simp [List.getElem?_replicate, h]; omega
 · simp [List.getElem?_replicate, h]
theorem digsTo_all (n : Nat) (m : Int) : digsTo n m n = digs n m := by
 unfold digsTo digs
 exact List.map_congr_left fun i _ => by simp
theorem digsTo_set {n j : Nat} (m : Int) (h : j < n) : (digsTo n m j).set (n - 1 - j) (dg n m (n - 1 - j)) = digsTo n m (j + 1) := by
 apply List.ext_getElem?
 intro i
 unfold digsTo
 rw [List.getElem?_set]
 by_cases e : n - 1 - j = i
 · subst e
   have h1 : n - (j + 1) ≤ n - 1 - j := by omega
   have h2 : n - 1 - j < n := by omega
   simp [h2, h1]
   intro h5
   omega
 · rw [if_neg e]
   by_cases hi : i < n
   · simp only [List.getElem?_map, List.getElem?_range hi, Option.map_some]
     congr 1
     by_cases h3 : n - j ≤ i
     · rw [if_pos h3, if_pos (by omega)]
     · rw [if_neg h3, if_neg (by omega)]
   · simp [hi]
theorem digsTo_len (n : Nat) (m : Int) (j : Nat) : (digsTo n m j).length = n := by simp [digsTo]
theorem intsV_set (zs : List Int) (k : Nat) (z : Int) : intsV (zs.set k z) = (intsV zs).set k (.int .i64 z) := by simp [intsV, List.map_set]
theorem intsV_len (zs : List Int) : (intsV zs).length = zs.length := by simp [intsV]
theorem dg_last {n j : Nat} (m : Int) (h : j < n) : dg n m (n - 1 - j) = m / pw j % 10 := by
 unfold dg
 rw [show n - (n - 1 - j + 1) = j by omega]
theorem div_pw {m : Int} (j : Nat) : m / pw (j + 1) = m / pw j / 10 := by
 have hp := pw_pos j
 rw [pw_succ, Int.mul_comm, ← Int.ediv_ediv_of_nonneg (by omega)]
theorem made_ints (n : Nat) : (madeCells (Value.int .i64 0).cells (n * 1)).toList = intsV (List.replicate n 0) := by
 rw [Nat.mul_one, show (Value.int .i64 0).cells = #[.int .i64 0] from rfl, toList_madeCells_one]
 simp [intsV]
theorem power_at (z : Int) (n : Nat) (w : World) (hz : z = n) (hn : n ≤ 8) : Calls Try.prog 44 #[.int .i64 z] w fun e w' => e = .returned (.int .i64 (pw n)) ∧ w = w' := by
 subst hz
 exact power_any n w hn
theorem info_int : (Try.prog.info? 3).map (fun i => (i.zero, i.size, i.bytes)) = some (some (.int .i64 0), 1, 8) := by kernel_rfl
/-- what can be taken -/
def canTB (l : List R2) (m : Int) : Bool := inB m 0 (numR l)
theorem canAdd_nonneg {l : List R2} {m : Int} (h : canB l m = true) : 0 ≤ m := by
 simp only [canB, Bool.and_eq_true, inB_iff] at h; exact h.1.1
theorem canAdd_bound {u lo : Int} {l : List R2} {m : Int} (hf : frB u lo l = true) (h : canB l m = true) : m < 200000000 := by
 simp only [canB, Bool.and_eq_true, inB_iff] at h
 have := pw_lt (frB_head hf).2.2.2
 omega
theorem canAdd_fit {l : List R2} {m : Int} (h : canB l m = true) : numD (dsOf l) + m < pw (dsOf l).length := by
 simp only [canB, Bool.and_eq_true, inB_iff] at h
 rw [dsOf_len]
 have : numR l = numD (dsOf l) := rfl
 omega
theorem canTake_nonneg {l : List R2} {m : Int} (h : canTB l m = true) : 0 ≤ m := by
 simp only [canTB, inB_iff] at h; exact h.1
theorem canTake_bound {u lo : Int} {l : List R2} {m : Int} (hf : frB u lo l = true) (h : canTB l m = true) : m < 200000000 := by
 simp only [canTB, inB_iff] at h
 have := numR_bounds hf l.length
 rw [numR_all l _ (Nat.le_refl _)] at this
 omega
theorem canTake_fit {l : List R2} {m : Int} (h : canTB l m = true) : m ≤ numD (dsOf l) := by
 simp only [canTB, inB_iff] at h; exact h.2
theorem addS_ask : ∀ (r : Nat) (d : Int) (s : WS), s.ask ≤ (addS r d s).ask ∧ (addS r d s).ask ≤ s.ask + r := by
 intro r
 induction r with
 | zero => intro d s; simp [addS]
 | succ r ih =>
   intro d s
   by_cases h : 0 < d
   · rw [addS_pos s h]
     have := ih ((s.ds.getD r 0 + d) / 10) ⟨s.ds.set r ((s.ds.getD r 0 + d) % 10), s.ms ++ turnM r (s.ds.getD r 0) ((s.ds.getD r 0 + d) % 10), s.ask + if 0 < (s.ds.getD r 0 + d) / 10 then 1 else 0⟩
     dsimp only at this
     split at this <;> split <;> omega
   · rw [addS_none s h]; omega
theorem takeS_ask : ∀ (r : Nat) (d : Int) (s : WS), s.ask ≤ (takeS r d s).ask ∧ (takeS r d s).ask ≤ s.ask + r := by
 intro r
 induction r with
 | zero => intro d s; simp [takeS]
 | succ r ih =>
   intro d s
   by_cases h : 0 < d
   · by_cases hx : d ≤ s.ds.getD r 0
     · rw [takeS_in s h hx]; dsimp only; omega
     · rw [takeS_left s h hx]
       have := ih 1 ⟨s.ds.set r (s.ds.getD r 0 - d + 10), s.ms ++ turnM r (s.ds.getD r 0) (s.ds.getD r 0 - d + 10), s.ask + 1⟩
       dsimp only at this
       omega
   · rw [takeS_none s h]; omega
theorem addN_ask (n : Nat) (m : Int) (s : WS) (k : Nat) (hk : k ≤ 8) : s.ask ≤ (addN n m s k).ask ∧ (addN n m s k).ask ≤ s.ask + 8 * k := by
 induction k with
 | zero => simp [addN]
 | succ k ih => rw [addN]; have := ih (by omega); have := addS_ask (k + 1) (dg n m k) (addN n m s k); omega
theorem takeN_ask (n : Nat) (m : Int) (s : WS) (k : Nat) (hk : k ≤ 8) : s.ask ≤ (takeN n m s k).ask ∧ (takeN n m s k).ask ≤ s.ask + 8 * k := by
 induction k with
 | zero => simp [takeN]
 | succ k ih => rw [takeN]; have := ih (by omega); have := takeS_ask (k + 1) (dg n m k) (takeN n m s k); omega
/-- a digit that can be added, taken -/
def addDigitB (u lo : Int) (l : List R2) (rod d : Int) : Bool := goodB u lo l && inB rod 0 ((l.length : Int) - 1) && inB d 0 9 && canB l (d * pw (l.length - (rod.toNat + 1)))
def takeDigitB (u lo : Int) (l : List R2) (rod d : Int) : Bool := goodB u lo l && inB rod 0 ((l.length : Int) - 1) && inB d 0 9 && canTB l (d * pw (l.length - (rod.toNat + 1)))
theorem within_b (n lo hi : Int) (b : Bool) (w : World) (hb : inB n lo hi = b) :
 Calls Try.prog 24 #[.int .i64 n, .int .i64 lo, .int .i64 hi] w fun e w' => e = .returned (.bool b) ∧ Below w.heap.size w w' := by
 subst hb
 exact (inB_within n lo hi w).mono fun e w' ⟨h, hw⟩ => ⟨h, by rw [← hw]; exact ext_refl _⟩
end Go.Proofs.Ytgjbkdnbaphfkaa
namespace Go.Proofs.Ytgjbkdnbaphfkaa
open Go.RowKit
set_option linter.unusedVariables false
set_option linter.unusedSimpArgs false
theorem fr_fill {w : World} {g : Nat} {a b c : Value} (h : Blk w g 26 #[.int .i64 0, .int .i64 0, .slice none 0 0]) : Blk (((w.setCell ⟨g, 0, none⟩ a).setCell ⟨g, 1, none⟩ b).setCell ⟨g, 2, none⟩ c) g 26 #[a, b, c] := ((h.set_ 0 a).set_ 1 b).set_ 2 c
theorem fr_put {w : World} {g : Nat} {a b c a' b' c' : Value} (h : Blk w g 26 #[a', b', c']) : Blk (((w.setCell ⟨g, 0, none⟩ a).setCell ⟨g, 1, none⟩ b).setCell ⟨g, 2, none⟩ c) g 26 #[a, b, c] := ((h.set_ 0 a).set_ 1 b).set_ 2 c
theorem fill_far {w : World} {g k : Nat} {t : TypeId} {cs : Array Value} {a b c : Value} (h : Blk w k t cs) (hne : g ≠ k) : Blk (((w.setCell ⟨g, 0, none⟩ a).setCell ⟨g, 1, none⟩ b).setCell ⟨g, 2, none⟩ c) k t cs := ((h.setF (p := ⟨g, 0, none⟩) hne a).setF (p := ⟨g, 1, none⟩) hne b).setF (p := ⟨g, 2, none⟩) hne c
theorem fill_own' {w : World} {g B E size n : Nat} {v : Value} {xs : List Value} {a b c : Value} (h : w.ownsRow B E size v n xs) (hne : v.ownBlock ≠ some g) : (((w.setCell ⟨g, 0, none⟩ a).setCell ⟨g, 1, none⟩ b).setCell ⟨g, 2, none⟩ c).ownsRow B E size v n xs := own_setF (p := ⟨g, 2, none⟩) (own_setF (p := ⟨g, 1, none⟩) (own_setF (p := ⟨g, 0, none⟩) h hne a) hne b) hne c
theorem fill_own {w : World} {g B B' E size n : Nat} {v : Value} {xs : List Value} {a b c : Value} (h : w.ownsRow B E size v n xs) (hg : g < B) (hB : B' ≤ B) : (((w.setCell ⟨g, 0, none⟩ a).setCell ⟨g, 1, none⟩ b).setCell ⟨g, 2, none⟩ c).ownsRow B' E size v n xs := own_base (fill_own' h (own_far_lt h hg)) hB
theorem fill_below {w0 w : World} {g B : Nat} {a b c : Value} (h : Below B w0 w) (hg : B ≤ g) : Below B w0 (((w.setCell ⟨g, 0, none⟩ a).setCell ⟨g, 1, none⟩ b).setCell ⟨g, 2, none⟩ c) := ((h.setCell (p := ⟨g, 0, none⟩) hg a).setCell (p := ⟨g, 1, none⟩) hg b).setCell (p := ⟨g, 2, none⟩) hg c
/-- a frame of its own comes back beside a bool -/
def RetFrB (w : World) (F : Int × Int × List R2) (ok : Bool) (e : Ending) (w' : World) : Prop :=
 ∃ A c, e = .returned (.tuple #[frV F.1 F.2.1 A F.2.2.length c, .bool ok]) ∧ w'.ownsRow w.heap.size 41 2 (.slice A F.2.2.length c) F.2.2.length (rowsV2 F.2.2) ∧ Below w.heap.size w w'
theorem rows_cells2 {w : World} {B h n c : Nat} {l : List R2} (hr : w.ownsRow B 41 2 (.slice (some ⟨h, 0, none⟩) n c) n (rowsV2 l)) {r : Nat} {x : R2} (hd : l[r]? = some x) :
 w.cell? ⟨h, r * 2, none⟩ = some (.int .i64 x.a) ∧ w.cell? ⟨h, r * 2 + 1, none⟩ = some (.int .i64 x.b) ∧ h < w.heap.size ∧ B ≤ h := by
 obtain ⟨b, o, hA, hb, c0, c1⟩ := rows_at2 (Reads.of_own hr) hd
 injection hA with hA
 injection hA with hA1 hA2
 subst hA1 hA2
 rw [Nat.zero_add] at c0 c1
 exact ⟨c0, c1, hb, (hr.lt _ rfl).1⟩
end Go.Proofs.Ytgjbkdnbaphfkaa
namespace Go.Proofs.Ytgjbkdnbaphfkaa
open Go.RowKit
set_option linter.unusedVariables false
set_option linter.unusedSimpArgs false
/-- the rods l, of which the last j show m -/
def shTo (l : List R2) (n : Nat) (m : Int) (j : Nat) : List R2 := (List.range n).map fun i => if n - j ≤ i then rodD (dg n m i) else l.getD i ⟨0, 0⟩
theorem shTo_len (l : List R2) (n : Nat) (m : Int) (j : Nat) : (shTo l n m j).length = n := by simp [shTo]
theorem shTo_get {l : List R2} {n : Nat} (m : Int) (j : Nat) {i : Nat} (h : i < n) : (shTo l n m j)[i]? = some (if n - j ≤ i then rodD (dg n m i) else l.getD i ⟨0, 0⟩) := by simp [shTo, h]
theorem shTo_zero {l : List R2} {n : Nat} (m : Int) (h : l.length = n) : shTo l n m 0 = l := by
 refine List.ext_getElem? fun i => ?_
 by_cases hi : i < n
 · rw [shTo_get m 0 hi, if_neg (by omega)]
   obtain ⟨x, hx⟩ := list_split (l := l) (k := i) (by omega)
   rw [hx, List.getD_eq_getElem?_getD, hx]; rfl
 · rw [List.getElem?_eq_none (by rw [shTo_len]; omega), List.getElem?_eq_none (by omega)]
theorem shTo_all (l : List R2) (n : Nat) (m : Int) : shTo l n m n = rodsD (digs n m) := by
 unfold shTo rodsD digs
 rw [List.map_map]
 exact List.map_congr_left fun i _ => by simp
theorem shTo_set {l : List R2} {n j : Nat} (m : Int) (h : j < n) : (shTo l n m j).set (n - 1 - j) (rodD (dg n m (n - 1 - j))) = shTo l n m (j + 1) := by
 refine List.ext_getElem? fun i => ?_
 by_cases hi : i < n
 · rw [shTo_get m (j + 1) hi]
   by_cases he : i = n - 1 - j
   · subst he
     rw [List.getElem?_set_self (by rw [shTo_len]; omega), if_pos (by omega)]
   · rw [List.getElem?_set_ne (by omega), shTo_get m j hi]
     by_cases hc : n - j ≤ i
     · rw [if_pos hc, if_pos (by omega)]
     · rw [if_neg hc, if_neg (by omega)]
 · rw [List.getElem?_eq_none (by rw [List.length_set, shTo_len]; omega), List.getElem?_eq_none (by rw [shTo_len]; omega)]
def RetSh (w : World) (u lo : Int) (n : Nat) (l : List R2) (e : Ending) (w' : World) : Prop := ∃ A c, e = .returned (frV u lo A n c) ∧ w'.ownsRow w.heap.size 41 2 (.slice A n c) n (rowsV2 l) ∧ Below w.heap.size w w'
set_option maxRecDepth 100000 in
set_option maxHeartbeats 8000000 in
theorem showing_any (u lo : Int) (A : Option Addr) (n c : Nat) (l : List R2) (m : Int) (w : World) (hn1 : 1 ≤ n) (hn : n ≤ 8) (m0 : 0 ≤ m) (m1 : m < 200000000) (h : Reads w w.heap.size 2 A n (rowsV2 l)) :
 Calls Try.prog 32 #[frV u lo A n c, .int .i64 m] w (RetSh w u lo n (rodsD (digs n m))) := by
 have hl := rows_len2 h
 have H := Lib.hid h
 have BF0 := Lib.hid ((Blk.born w #[.int .i64 u, .int .i64 lo, .slice A n c] 26 (H := w.heap.size) rfl).al (.cells #[.int .i64 0, .int .i64 0, .slice none 0 0] 26))
 have BR0 := Lib.hid (Blk.born (w.alloc (.cells #[.int .i64 u, .int .i64 lo, .slice A n c] 26)) #[.int .i64 0, .int .i64 0, .slice none 0 0] 26 (H := w.heap.size + 1) (by simp))
 have hbx := Lib.hid (ext_alloc (ext_alloc (ext_refl w) (.cells #[.int .i64 u, .int .i64 lo, .slice A n c] 26)) (.cells #[.int .i64 0, .int .i64 0, .slice none 0 0] 26))
 have HZ := Lib.hid (shTo_zero m hl)
 have HALL := Lib.hid (shTo_all l n m)
 clear h hl
 go_enter Try.func32, Try.ntmps32
 go_wp2_with fail
 refine (own_fr u lo A n c l _ hn1 (by omega) (rdx H.out hbx.out)).mono ?_
 rintro e w2 ⟨h, cr, rfl, hr2, hb4⟩
 have hr2 := Lib.hid (own_base (base' := w.heap.size) hr2 hbx.out.size)
 have BR3 := Lib.hid (BR0.out.ext hb4)
 have hb5 := Lib.hid (ext_trans hbx.out hb4)
 have hRl := BR3.out.lt
 obtain ⟨N, hN⟩ : ∃ N, N = w2.heap.size := ⟨_, rfl⟩
 obtain ⟨W, hW⟩ : ∃ W, W = w2.alloc (.cells #[.int .i64 u, .int .i64 lo, .slice (some ⟨h, 0, none⟩) n cr] 26) := ⟨_, rfl⟩
 have BNW := Lib.hid (show Blk W N 26 #[.int .i64 u, .int .i64 lo, .slice (some ⟨h, 0, none⟩) n cr] by rw [hW]; exact Blk.born _ _ _ hN)
 have BRW := Lib.hid (show Blk W (w.heap.size + 1) 26 #[.int .i64 0, .int .i64 0, .slice none 0 0] by rw [hW]; exact BR3.out.al _)
 have hrW := Lib.hid (show W.ownsRow w.heap.size 41 2 (.slice (some ⟨h, 0, none⟩) n cr) n (rowsV2 (shTo l n m 0)) by rw [hW, HZ.out]; exact hr2.out.alloc _)
 have hbW := Lib.hid (show Below w.heap.size w W by rw [hW]; exact ext_alloc hb5.out _)
 have HWN := Lib.hid (And.intro hW hN)
 clear hb4 hN hW hRl
 go_upto_region 2 with fail
 rw [← HWN.out.2, ← HWN.out.1]
 clear HWN
 obtain ⟨p0, p1, p2⟩ := BNW.out.q3
 have hNl := BNW.out.lt
 go_wp2_with fail
 go_loopw [1, 6] (fun v i wr => ∃ (j : Nat) (z : Int), j ≤ n ∧ i = .int .i64 z ∧ z = (n : Int) - 1 - j ∧ v = .int .i64 (m / pw j) ∧ Hid (Blk wr N 26 #[.int .i64 u, .int .i64 lo, .slice (some ⟨h, 0, none⟩) n cr]) ∧ Hid (Blk wr (w.heap.size + 1) 26 #[.int .i64 0, .int .i64 0, .slice none 0 0]) ∧ Hid (wr.ownsRow w.heap.size 41 2 (.slice (some ⟨h, 0, none⟩) n cr) n (rowsV2 (shTo l n m j))) ∧ Hid (Below w.heap.size w wr)) (fun _ i _ => (intOf i + 1).toNat)
 case atStart => exact ⟨0, _, Nat.zero_le _, rfl, by omega, by simp [pw_zero], BNW, BRW, hrW, hbW⟩
 case round =>
  clear BNW BRW hrW hbW p0 p1 p2 hNl
  obtain ⟨j, z, hj, rfl, hz, rfl, BNr, BRr, hrr, hbr⟩ := hrel
  have hd0 : 0 ≤ m / pw j := Int.ediv_nonneg m0 (by have := pw_pos j; omega)
  have hd1 : m / pw j ≤ m := Int.ediv_le_self _ m0
  by_cases hlt : j < n
  · obtain ⟨k, hk⟩ : ∃ k : Nat, k = n - 1 - j := ⟨_, rfl⟩
    have hzk : z = (k : Int) := by omega
    have hkn : k < n := by omega
    subst hzk
    have hset := Lib.hid (shTo_set (l := l) (n := n) (j := j) m hlt)
    rw [← hk] at hset
    have hlast := Lib.hid (dg_last (n := n) m hlt)
    rw [← hk] at hlast
    have hdiv := Lib.hid (div_pw (m := m) j)
    obtain ⟨x, hx⟩ := list_split (l := shTo l n m j) (k := k) (by rw [shTo_len]; exact hkn)
    have hset2 := Lib.hid (rowsV2_set (shTo l n m j) k (rodD (dg n m k)) (by rw [shTo_len]; exact hkn))
    obtain ⟨W, hW⟩ : ∃ y : World, y = wr := ⟨_, rfl⟩
    subst hW
    obtain ⟨p0, p1, p2⟩ := BNr.out.q3
    have hNl := BNr.out.lt
    obtain ⟨c0, c1, hlt', hge⟩ := rows_cells2 hrr.out hx
    have fz0 := own_frozen hrr.out (k * 2)
    have fz1 := own_frozen hrr.out (k * 2 + 1)
    have hneN : h ≠ N := fun ee => own_nbT hrr.out BNr.out (by decide) (by rw [ee]; rfl)
    have hneR : h ≠ w.heap.size + 1 := fun ee => own_nbT hrr.out BRr.out (by decide) (by rw [ee]; rfl)
    have HK := Lib.hid hk
    have hk1 : (k : Int) < (n : Int) := by omega
    have hk0 : (0 : Int) ≤ (k : Int) := by omega
    clear hx hk hz
    obtain ⟨M, hM⟩ : ∃ M, m / pw j = M := ⟨_, rfl⟩
    rw [hM] at hd0 hd1 hlast hdiv ⊢
    have hM1 : M ≤ 9223372036854775807 := by omega
    have hrm : 0 ≤ M % 10 ∧ M % 10 ≤ 9 := by omega
    have htm : M.tmod 10 = M % 10 := Int.tmod_eq_emod_of_nonneg hd0
    obtain ⟨d, hd⟩ : ∃ d, M % 10 = d := ⟨_, rfl⟩
    rw [hd] at hrm htm hlast
    have HR := Lib.hid (fun (w : World) => rodOf_any d w (by omega) (by omega))
    unfold R2.val rodD at HR
    clear hM hd
    go_upto_region 5 with fail
    go_cut [5] (fun s5 wx => s5 = .pointer (some ⟨N, 0, none⟩) ∧ Hid (Blk wx N 26 #[.int .i64 u, .int .i64 lo, .slice (some ⟨h, 0, none⟩) n cr]) ∧ Hid (Blk wx (w.heap.size + 1) 26 #[.int .i64 0, .int .i64 0, .slice none 0 0]) ∧ Hid (wx.ownsRow w.heap.size 41 2 (.slice (some ⟨h, 0, none⟩) n cr) n (rowsV2 (shTo l n m (j + 1)))) ∧ Hid (Below w.heap.size w wx))
    case first =>
     go_region_law (first | (go_simp; go_at_call 46; refine (HR.out _).mono ?_; rintro e w5 ⟨rfl, hb⟩; have hbA := Lib.hid (show Below W.heap.size W w5 from ext_trans (ext_drew (ext_refl _)) hb); have p2A := ext_cell hbA.out p2; have c0A := ext_cell hbA.out c0; have c1A := ext_cell hbA.out c1; have fz0A := (hbA.out.frozen (p := ⟨h, k * 2, none⟩) hlt').trans fz0; have fz1A := (hbA.out.frozen (p := ⟨h, k * 2 + 1, none⟩) hlt').trans fz1; have hltA := Nat.lt_of_lt_of_le hlt' hbA.out.size; clear hb))
     all_goals
      go_wp2_with fail
      go_meet
      exact ⟨rfl, Lib.hid (((BNr.out.ext hbA.out).setF (p := ⟨h, k * 2, none⟩) hneN _).setF (p := ⟨h, k * 2 + 1, none⟩) hneN _), Lib.hid (((BRr.out.ext hbA.out).setF (p := ⟨h, k * 2, none⟩) hneR _).setF (p := ⟨h, k * 2 + 1, none⟩) hneR _), by rw [← hset.out, hset2.out, hlast.out]; exact Lib.hid (((own_ext hrr.out hbA.out).stored (k * 2) _).1.stored (k * 2 + 1) _).1, Lib.hid (((ext_trans hbr.out hbA.out).setCell (p := ⟨h, k * 2, none⟩) hge _).setCell (p := ⟨h, k * 2 + 1, none⟩) hge _)⟩
    case rest =>
     obtain ⟨rfl, BN5, BR5, hr5, hb6⟩ := hcut
     go_wp2
     go_roundw
     case rel => exact ⟨j + 1, (k : Int) - 1, by omega, by go_num, by have := HK.out; omega, by rw [hdiv.out], BN5, BR5, hr5, hb6⟩
     case measure => simp [intOf]
  · obtain rfl : j = n := by omega
    have hz' : z = -1 := by omega
    subst hz'
    obtain ⟨p0, p1, p2⟩ := BNr.out.q3
    obtain ⟨r0, r1, r2⟩ := BRr.out.q3
    obtain ⟨z0, z1, z2⟩ := BRr.out.z3
    have hRl := BRr.out.lt
    clear hz
    go_wp2
    refine bodyPost_ret (v := frV u lo (some ⟨h, 0, none⟩) j cr) (by simp [results, Try.results32, go_sem, *]) rfl ?_
    exact ⟨some ⟨h, 0, none⟩, cr, rfl, by rw [← HALL.out]; exact fill_own' hrr.out (own_nbT hrr.out BRr.out (by decide)), fill_below hbr.out (Nat.le_succ _)⟩
end Go.Proofs.Ytgjbkdnbaphfkaa
namespace Go.Proofs.Ytgjbkdnbaphfkaa
open Go.RowKit
set_option linter.unusedVariables false
set_option linter.unusedSimpArgs false
theorem lst_lt {listed : Array Bool} {n j : Nat} (hs : listed.size = n) (h : lst listed j) : j < n := by
 rcases Nat.lt_or_ge j listed.size with h1 | h1
 · omega
 · unfold lst at h
   simp [Array.getD, Nat.not_lt.2 h1] at h
/-- dp only says what waits for what -/
def dpok (ops : Array Oper) (dp : Nat → Nat → Bool) : Bool := (List.range ops.size).all fun j => (List.range ops.size).all fun i => !dp j i || (match ops[j]? with | none => true | some oj => oj.after.any fun e => Region.binds .any e && e.on == i)
theorem wp_region_m {P : Program} {id : Nat} {ops : Array Oper} {Q : Exit → Act → World → Prop} {a : Act} {w : World} (hm : P.follows .mixedOrders = true) (hlat : laterB ops = true) (D : List Nat) (uses : Nat → List Nat) (hu : uok ops D uses = true) (hnd : D.Nodup) (mx : Nat) (hD : (D.all fun d => decide (d < mx)) = true) (hmx : mx ≤ a.tmps.size) (E : Act → Prop) (hE : E a) (dp : Nat → Nat → Bool) (hdp : dpok ops dp = true)
 (I : Nat → (Nat → Prop) → World → Prop) (R : Nat → World → World → Prop) (G : Nat → (Nat → Value) → World → Prop) (hI0 : I 0 (fun _ => False) w.drew)
 (hR : ∀ i j vs us w w', i ≠ j → dp j i = false → G j vs w → (∀ d ∈ uses j, us d = vs d) → R i w w' → G j us w')
 (hstep : ∀ a0, E a0 → ∀ i o, ops[i]? = some o → ∀ (Qx : Exit → Act → World → Prop) vs wx b K k L, I k L wx → k < ops.size → ¬ L i → (∀ j, L j → j < ops.size) → (∀ j oj jj, ops[j]? = some oj → L j → (oj.after.any fun e => Region.binds .any e && e.on == jj) = true → L jj) → (∀ j, (o.after.any fun e => Region.binds .any e && e.on == j) = true → L j ∧ G j vs wx) →
  (∀ t, t ∉ D → b.tmps[t]?.getD undef = a0.eval (.tmp t)) → (∀ d ∈ D, b.tmps[d]?.getD undef = vs d) →
  (∀ v w', I (k + 1) (fun j => j = i ∨ L j) w' → R i wx w' → G i (match o.dst with | some d => upd vs d v | none => vs) w' → K (b.put o.dst v) w') →
  if Region.wanted o (yielded ops b.tmps) = true then Oper.wp P o b wx K Qx else K (b.put o.dst undef) wx)
 (hend : ∀ vs wx k L, I k L wx → k ≤ ops.size → (∀ j, L j → j < ops.size) → (∀ j, j < ops.size → L j ∧ G j vs wx) → Q .normal (sl a vs D) wx) : (Code.region id ops true).wp P Q a w := by
 have hsz : ∀ d ∈ D, d < a.tmps.size := fun d hd => Nat.lt_of_lt_of_le (by simpa using List.all_eq_true.1 hD d hd) hmx
 refine wp_region_any hm ?_
 refine wpAny_inv (I := fun listed a' w' => listed.size = ops.size ∧ closed ops listed ∧ ∃ vs, a' = sl a vs D ∧ I (ops.size - unl listed) (lst listed) w' ∧ ∀ j, lst listed j → G j vs w') ?_ ?_ _ _ _ _ ⟨by simp, ?_, _, (sl_self a D hsz).symm, ?_, ?_⟩ ?_
 · rintro listed _ w' i ⟨hls, hcl, vs, rfl, hI, hG⟩ hi
   obtain ⟨h1, o, ho, h2⟩ := mem_ready.1 hi
   obtain ⟨h3, h4⟩ := lst_no h1
   have hn := unl_set h1
   have hle : unl listed ≤ ops.size := by rw [← hls]; unfold unl; have := List.count_le_length (a := false) (l := listed.toList); simpa using this
   refine wpOp_of ho fun K hK => ?_
   have hup : 0 < unl listed := by omega
   refine hstep a hE i o ho Q vs w' (sl a vs D) K _ (lst listed) hI (by omega) h3 (fun j hj => ?lt) (fun j oj jj hoj hj hd => ?cl) (fun j hj => ?dep) (fun t ht => (Array.getD_eq_getD_getElem? ..).symm.trans (sl_out a vs D ht)) (fun d hd => (Array.getD_eq_getD_getElem? ..).symm.trans (sl_at a vs D hnd hd (hsz d hd))) ?_
   case dep =>
    obtain ⟨k, hk, hb⟩ := Array.any_eq_true.1 hj
    simp only [Bool.and_eq_true, beq_iff_eq] at hb
    rw [← hb.2]
    have hl := h2 _ (Array.getElem_mem hk) hb.1
    exact ⟨hl, hG _ hl⟩
   case lt => exact lst_lt hls hj
   case cl =>
    obtain ⟨k, hk, hb⟩ := Array.any_eq_true.1 hd
    simp only [Bool.and_eq_true, beq_iff_eq] at hb
    rw [← hb.2]
    exact hcl j oj hoj hj _ (Array.getElem_mem hk) hb.1
   intro v w'' hI' hR' hG'
   have key : ∀ us, (∀ d, (o.dst ≠ some d) → us d = vs d) → G i us w'' → ∀ j, lst (listed.setIfInBounds i true) j → G j us w'' := by
    intro us hus hgi j hj
    by_cases e : j = i
    · subst e; exact hgi
    · have hj' := (lst_set.1 hj).resolve_left (fun h => e h.1)
      have hag : ∀ d ∈ uses j, us d = vs d := by
       intro d hd
       refine hus d fun hdst => ?_
       obtain ⟨_, hall⟩ := uok_dst hu ho hdst
       have hjs : j < ops.size := by
        rcases Nat.lt_or_ge j listed.size with h | h
        · omega
        · unfold lst at hj'
          simp [Array.getD, Nat.not_lt.2 h] at hj'
       obtain ⟨e2, he2, hb2, hon⟩ := hall j ops[j] (by simp [hjs]) (Ne.symm e) hd
       have := hcl j ops[j] (by simp [hjs]) hj' e2 he2 hb2
       rw [hon] at this
       exact h3 this
      refine hR i j vs us _ _ (Ne.symm e) ?_ (hG j hj') hag hR'
      cases hdj : dp j i with
      | false => rfl
      | true =>
        exfalso
        have hjs : j < ops.size := by
         rcases Nat.lt_or_ge j listed.size with h | h
         · omega
         · unfold lst at hj'
           simp [Array.getD, Nat.not_lt.2 h] at hj'
        have h5 := List.all_eq_true.1 (List.all_eq_true.1 hdp j (List.mem_range.2 hjs)) i (List.mem_range.2 (by omega))
        rw [hdj] at h5
        simp only [Array.getElem?_eq_getElem hjs, Bool.not_true, Bool.false_or] at h5
        obtain ⟨k, hk, hb⟩ := Array.any_eq_true.1 h5
        simp only [Bool.and_eq_true, beq_iff_eq] at hb
        have h6 := hcl j ops[j] (by simp [hjs]) hj' _ (Array.getElem_mem hk) hb.1
        rw [hb.2] at h6
        exact h3 h6
   have hclosed : closed ops (listed.setIfInBounds i true) := by
    intro j oj hoj hj e he hb
    rw [lst_set] at hj ⊢
    rcases hj with ⟨rfl, _⟩ | hj
    · rw [ho] at hoj
      injection hoj with hoj
      subst hoj
      exact .inr (h2 e he hb)
    · exact .inr (hcl j oj hoj hj e he hb)
   have hcnt : ops.size - unl (listed.setIfInBounds i true) = ops.size - unl listed + 1 := by omega
   have hset : lst (listed.setIfInBounds i true) = fun j => j = i ∨ lst listed j := by
    funext j
    exact propext ⟨fun h => (lst_set.1 h).imp And.left (fun x => x), fun h => lst_set.2 (h.imp (fun e => ⟨e, h4⟩) (fun x => x))⟩
   rcases hd : o.dst with _ | d
   · rw [hd] at hG'
     refine hK _ _ ⟨by simpa using hls, hclosed, vs, ?_, by rw [hcnt, hset]; exact hI', key vs (fun _ _ => rfl) hG'⟩
     rfl
   · rw [hd] at hG'
     refine hK _ _ ⟨by simpa using hls, hclosed, upd vs d v, sl_put a vs v D hnd (uok_dst hu ho hd).1, by rw [hcnt, hset]; exact hI', key _ (fun x hx => upd_ne _ _ (fun e => hx (by rw [hd, e]))) hG'⟩
 · rintro listed _ w' ⟨hls, _, vs, rfl, hI, hG⟩ hr
   have hall := fun j hj => all_listedB hlat hls hr j hj
   exact hend vs w' _ _ hI (Nat.sub_le _ _) (fun j hj => lst_lt hls hj) fun j hj => ⟨hall j hj, hG j (hall j hj)⟩
 · intro j o _ hj
   exact absurd hj lst_rep
 · rw [unl_rep, Nat.sub_self, show lst (Array.replicate ops.size false) = (fun _ => False) from funext fun j => propext ⟨fun h => lst_rep h, False.elim⟩]; exact hI0
 · intro j hj
   exact absurd hj lst_rep
 · simp [unl]
/-- a cursor on block g, at a or a little on; before p1 is listed only it is written, before p2 is listed B holds -/
def ICur (C g a : Nat) (w W0 : World) (p1 p2 : Nat) (B : World → Prop) (k : Nat) (L : Nat → Prop) (wx : World) : Prop :=
 ∃ a', a' ≤ a + C * k ∧ CurAt wx g a' ∧ Gr g w wx ∧ W0.heap.size ≤ wx.heap.size ∧ (¬ L p1 → Gr g W0 wx) ∧ (¬ L p2 → B wx)
/-- the same without a cursor: all only grows -/
def IExt (w W0 : World) (p1 p2 : Nat) (B : World → Prop) (k : Nat) (L : Nat → Prop) (wx : World) : Prop :=
 Below w.heap.size w wx ∧ W0.heap.size ≤ wx.heap.size ∧ (¬ L p1 → Below W0.heap.size W0 wx) ∧ (¬ L p2 → B wx)
theorem Gr.refl (g : Nat) (w : World) : Gr g w w := Gr.of_ext (ext_refl w)
theorem Gr.alloc (g : Nat) (w : World) (o : Obj) : Gr g w (w.alloc o) := Gr.of_ext (ext_alloc (ext_refl w) o)
/-- the literal row of one struct of two cells -/
theorem own_blk2 {w : World} {B x e : Nat} {a b : Value} (h : Blk w x e #[a, b]) (hB : B ≤ x) : w.ownsRow B e 2 (.slice (some ⟨x, 0, none⟩) 1 1) 1 [a, b] :=
 ⟨by simp, .inr ⟨x, 1, #[a, b], rfl, hB, h, Nat.le_refl _, by unfold maxLen; omega, by simp, by simp⟩⟩
theorem allAt_blk {w : World} {g x e n : Nat} {cs : Array Value} {l : List Int} {lo hi : Int} (h : Blk w x e cs) (hcs : cs = (l.map (Value.int .i64)).toArray) (hn : n = l.length) (hne : x ≠ g) (hl : ∀ z ∈ l, lo ≤ z ∧ z ≤ hi) : AllAt w g (some ⟨x, 0, none⟩) n (IntIn lo hi) := by
 subst hcs hn
 refine ⟨x, 0, rfl, hne, fun i hi => ⟨.int .i64 l[i], ?_, l[i], rfl, hl _ (List.getElem_mem hi)⟩⟩
 have := h.cell i
 simp [hi] at this ⊢
 exact this
theorem own_blkF {w : World} {B e size g n c : Nat} {xs : List Value} (ho : w.ownsRow B e size (.slice (some ⟨g, 0, none⟩) n c) n xs) : ∃ cs, Blk w g e cs := by
 rcases ho.2 with ⟨h0, _⟩ | ⟨g', cap, cur, hv, _, hh, _⟩
 · cases h0
 · injection hv with hv
   injection hv with hv
   injection hv with hv
   subst hv
   exact ⟨cur, hh⟩
def lenAt (w : World) (N k : Nat) : Nat := match w.cell? ⟨N, k, none⟩ with
 | some (.slice _ n _) => n
 | _ => 0
theorem lenAt_of {w : World} {N k n c : Nat} {A : Option Addr} (h : w.cell? ⟨N, k, none⟩ = some (.slice A n c)) : lenAt w N k = n := by unfold lenAt; rw [h]
end Go.Proofs.Ytgjbkdnbaphfkaa
namespace Go.Proofs.Ytgjbkdnbaphfkaa
open Go.RowKit
set_option linter.unusedVariables false
set_option linter.unusedSimpArgs false
/-- the sum of the digits of m, of which there are at most f -/
def dsZ : Nat → Int → Int
 | 0, _ => 0
 | f + 1, m => m % 10 + dsZ f (m / 10)
theorem dsZ_zero : ∀ f, dsZ f 0 = 0 := by
 intro f
 induction f with
 | zero => rfl
 | succ f ih => show (0 : Int) % 10 + dsZ f (0 / 10) = 0; rw [show (0 : Int) / 10 = 0 from rfl, ih]; rfl
theorem dsZ_bounds : ∀ f m, 0 ≤ dsZ f m ∧ dsZ f m ≤ 9 * f := by
 intro f
 induction f with
 | zero => intro m; exact ⟨Int.le_refl _, Int.le_refl _⟩
 | succ f ih =>
   intro m
   have := ih (m / 10)
   show 0 ≤ m % 10 + dsZ f (m / 10) ∧ m % 10 + dsZ f (m / 10) ≤ _
   omega
theorem dsZ_num : ∀ f (ds : List Int), WF ds → ds.length ≤ f → dsZ f (numD ds) = ds.sum := by
 intro f
 induction f with
 | zero =>
   intro ds _ h
   have h0 : ds = [] := List.eq_nil_of_length_eq_zero (by omega)
   subst h0
   rfl
 | succ f ih =>
   intro ds hw hl
   rcases List.eq_nil_or_concat ds with rfl | ⟨xs, d, rfl⟩
   · exact dsZ_zero _
   · rw [List.concat_eq_append] at *
     have hx : WF xs := fun z hz => hw z (List.mem_append_left _ hz)
     have hd := hw d (by simp)
     rw [numD_snoc, List.sum_append]
     have h1 : (10 * numD xs + d) % 10 = d := by omega
     have h2 : (10 * numD xs + d) / 10 = numD xs := by omega
     show (10 * numD xs + d) % 10 + dsZ f ((10 * numD xs + d) / 10) = _
     rw [h1, h2, ih xs hx (by simp at hl; omega)]
     simp
     omega
theorem sum_set : ∀ (l : List Int) (i : Nat) (a : Int), i < l.length → (l.set i a).sum = l.sum - l.getD i 0 + a := by
 intro l
 induction l with
 | nil => intro i a h; simp at h
 | cons x l ih =>
   intro i a h
   rcases i with _ | i
   · simp
     omega
   · simp only [List.length_cons] at h
     have := ih i a (by omega)
     simp only [List.set_cons_succ, List.sum_cons, List.getD_cons_succ, this]
     omega
theorem addS_sum : ∀ (r : Nat) (d : Int) (s : WS), AddFit r d s.ds → (addS r d s).ds.sum = s.ds.sum + d - 9 * ((addS r d s).ask - s.ask) := by
 intro r
 induction r with
 | zero => intro d s h; have := h.done; subst this; show s.ds.sum = s.ds.sum + 0 - 9 * (s.ask - s.ask); omega
 | succ r ih =>
   intro d s h
   by_cases h0 : 0 < d
   · rw [addS_pos s h0, ih _ _ h.step]
     show (s.ds.set r _).sum + _ - 9 * (_ - (s.ask + _)) = _
     rw [sum_set _ _ _ h.1]
     have hx := h.2.2.2.1.getD r
     have hd := h.2.2.1
     generalize (addS r ((s.ds.getD r 0 + d) / 10) _).ask = q
     by_cases hc : 0 < (s.ds.getD r 0 + d) / 10
     · rw [if_pos hc]; omega
     · rw [if_neg hc]; omega
   · rw [addS_none s h0]
     have := h.2.1
     omega
theorem takeS_sum : ∀ (r : Nat) (d : Int) (s : WS), TakeFit r d s.ds → (takeS r d s).ds.sum = s.ds.sum - d + 9 * ((takeS r d s).ask - s.ask) := by
 intro r
 induction r with
 | zero => intro d s h; have := h.done; subst this; show s.ds.sum = s.ds.sum - 0 + 9 * (s.ask - s.ask); omega
 | succ r ih =>
   intro d s h
   by_cases h0 : 0 < d
   · by_cases hx : d ≤ s.ds.getD r 0
     · rw [takeS_in s h0 hx]
       show (s.ds.set r _).sum = s.ds.sum - d + 9 * (s.ask - s.ask)
       rw [sum_set _ _ _ h.1]
       omega
     · rw [takeS_left s h0 hx, ih _ _ (h.left hx)]
       show (s.ds.set r _).sum - 1 + 9 * (_ - (s.ask + 1)) = _
       rw [sum_set _ _ _ h.1]
       omega
   · rw [takeS_none s h0]
     have := h.2.1
     omega
def dgS (n : Nat) (m : Int) (k : Nat) : Int := ((List.range k).map (dg n m)).sum
theorem dgS_succ (n : Nat) (m : Int) (k : Nat) : dgS n m (k + 1) = dgS n m k + dg n m k := by
 unfold dgS
 rw [List.range_succ, List.map_append, List.sum_append]
 simp
theorem addN_sum {m : Int} {s : WS} (hw : WF s.ds) (h0 : 0 ≤ m) (hm : numD s.ds + m < pw s.ds.length) : ∀ k, k ≤ s.ds.length → (addN s.ds.length m s k).ds.sum = s.ds.sum + dgS s.ds.length m k - 9 * ((addN s.ds.length m s k).ask - s.ask) := by
 intro k
 induction k with
 | zero => intro _; show s.ds.sum = s.ds.sum + 0 - 9 * (s.ask - s.ask); omega
 | succ k ih =>
   intro hk
   have h1 := ih (by omega)
   have h2 := addS_sum _ _ _ ((addN_facts hw h0 hm k (by omega)).2 (by omega))
   rw [addN, h2, h1, dgS_succ]
   omega
theorem takeN_sum {m : Int} {s : WS} (hw : WF s.ds) (h0 : 0 ≤ m) (hm : m ≤ numD s.ds) : ∀ k, k ≤ s.ds.length → (takeN s.ds.length m s k).ds.sum = s.ds.sum - dgS s.ds.length m k + 9 * ((takeN s.ds.length m s k).ask - s.ask) := by
 intro k
 induction k with
 | zero => intro _; show s.ds.sum = s.ds.sum - 0 + 9 * (s.ask - s.ask); omega
 | succ k ih =>
   intro hk
   have h1 := ih (by omega)
   have h2 := takeS_sum _ _ _ ((takeN_facts hw h0 hm k (by omega)).2 (by omega))
   rw [takeN, h2, h1, dgS_succ]
   omega
theorem digs_part (n : Nat) (m : Int) : ∀ k, k ≤ n → numD ((List.range k).map (dg n m)) = m / pw (n - k) - m / pw n * pw k := by
 intro k
 induction k with
 | zero => intro _; simp [numD, pw_zero]
 | succ k ih =>
   intro hk
   rw [List.range_succ, List.map_append, List.map_cons, List.map_nil, numD_snoc, ih (by omega), pw_succ]
   unfold dg
   have h1 : m / pw (n - k) = m / pw (n - (k + 1)) / 10 := by
    rw [pw_place (by omega), Int.mul_comm, ← Int.ediv_ediv_of_nonneg (by have := pw_pos (n - (k + 1)); omega)]
   rw [h1, Int.mul_sub, Int.mul_left_comm]
   omega
theorem digs_sum {n : Nat} {m : Int} (hn : n ≤ 8) (h0 : 0 ≤ m) (h1 : m < pw n) : dgS n m n = dsZ 10 m := by
 have h2 := digs_part n m n (Nat.le_refl _)
 rw [Nat.sub_self, pw_zero, Int.ediv_one, Int.ediv_eq_zero_of_lt h0 h1] at h2
 have hw : WF ((List.range n).map (dg n m)) := by
  intro d hd
  obtain ⟨k, _, rfl⟩ := List.mem_map.1 hd
  exact dg_bounds n m k
 have h3 := dsZ_num 10 _ hw (by simp; omega)
 rw [h2] at h3
 unfold dgS
 rw [← h3]
 congr 1
 omega
theorem num_sum {ds : List Int} (hw : WF ds) (hn : ds.length ≤ 8) : dsZ 10 (numD ds) = ds.sum := dsZ_num 10 ds hw (by omega)
end Go.Proofs.Ytgjbkdnbaphfkaa
namespace Go.Proofs.Ytgjbkdnbaphfkaa
open Go.RowKit
set_option linter.unusedVariables false
set_option linter.unusedSimpArgs false
/-- a word of a script -/
structure RW where
 times : Nat
 what : UInt8
 digit : Nat
def digB (c : UInt8) : Bool := decide (49 ≤ c.toNat ∧ c.toNat ≤ 57)
/-- a word that is not repeated -/
def plainO (l : List UInt8) : Option (UInt8 × Nat) :=
 match l with
 | [c] => if c = 60 ∨ c = 62 ∨ c = 99 then some (c, 0) else none
 | [c, d] => if (c = 43 ∨ c = 45) ∧ digB d = true then some (c, d.toNat - 48) else none
 | _ => none
def repB (c : UInt8) : Bool := decide (50 ≤ c.toNat ∧ c.toNat ≤ 57)
def wordO (l : List UInt8) : Option RW :=
 match l with
 | [] => none
 | c :: rest => if repB c = true ∧ rest ≠ [] then (plainO rest).map fun p => ⟨c.toNat - 48, p.1, p.2⟩ else (plainO l).map fun p => ⟨1, p.1, p.2⟩
def wd (l : List UInt8) : RW := (wordO l).getD ⟨1, 99, 0⟩
/-- the words of a script -/
def wordsL (s : ByteArray) : List (List UInt8) := if s.size = 0 then [] else splitL 32 (bl s)
def scrB (s : ByteArray) : Bool := decide (s.size ≤ 80) && (wordsL s).all fun l => (wordO l).isSome
def rulesL (s : ByteArray) : List RW := (wordsL s).map wd
theorem rulesL_len (s : ByteArray) : (rulesL s).length = (wordsL s).length := by simp [rulesL]
theorem wordsL_len (s : ByteArray) : (wordsL s).length ≤ 1 + s.size := by
 unfold wordsL
 split
 · simp
 · rw [splitL_len]
   have := List.count_le_length (a := (32 : UInt8)) (l := bl s)
   rw [bl_size] at this
   omega
/-- what a word that is one tells -/
def okW (w : RW) : Prop := (1 ≤ w.times ∧ w.times ≤ 9) ∧ ((w.what = 60 ∨ w.what = 62 ∨ w.what = 99) ∧ w.digit = 0 ∨ (w.what = 43 ∨ w.what = 45) ∧ 1 ≤ w.digit ∧ w.digit ≤ 9)
theorem plainO_ok {l : List UInt8} {c : UInt8} {d : Nat} (h : plainO l = some (c, d)) : (c = 60 ∨ c = 62 ∨ c = 99) ∧ d = 0 ∨ (c = 43 ∨ c = 45) ∧ 1 ≤ d ∧ d ≤ 9 := by
 unfold plainO at h
 split at h
 · split at h
   · rename_i hc
     injection h with h
     injection h with h1 h2
     subst h1 h2
     exact .inl ⟨hc, rfl⟩
   · cases h
 · split at h
   · rename_i hc
     injection h with h
     injection h with h1 h2
     subst h1 h2
     have hd := hc.2
     simp only [digB, decide_eq_true_eq] at hd
     exact .inr ⟨hc.1, by omega, by omega⟩
   · cases h
 · cases h
theorem wordO_ok {l : List UInt8} {w : RW} (h : wordO l = some w) : okW w := by
 unfold wordO at h
 split at h
 · cases h
 · rename_i c rest
   split at h
   · rename_i hc
     rcases hp : plainO rest with _ | ⟨a, b⟩
     · rw [hp] at h; cases h
     · rw [hp] at h
       injection h with h
       subst h
       have hr := hc.1
       simp only [repB, decide_eq_true_eq] at hr
       exact ⟨⟨by dsimp only; omega, by dsimp only; omega⟩, plainO_ok hp⟩
   · rcases hp : plainO (c :: rest) with _ | ⟨a, b⟩
     · rw [hp] at h; cases h
     · rw [hp] at h
       injection h with h
       subst h
       exact ⟨⟨by dsimp only; omega, by dsimp only; omega⟩, plainO_ok hp⟩
/-- a word carried out once -/
def stO (n : Nat) (w : RW) (p : WS × Nat) : Option (WS × Nat) :=
 if w.what = 60 then (if 0 < p.2 then some (p.1, p.2 - 1) else none)
 else if w.what = 62 then (if p.2 + 1 < n then some (p.1, p.2 + 1) else none)
 else if w.what = 99 then some (⟨p.1.ds.set p.2 0, p.1.ms ++ turnM p.2 (p.1.ds.getD p.2 0) 0, p.1.ask⟩, p.2)
 else if w.what = 43 then (if canB (rodsD p.1.ds) ((w.digit : Int) * pw (n - (p.2 + 1))) = true then some (addS (p.2 + 1) w.digit p.1, p.2) else none)
 else (if canTB (rodsD p.1.ds) ((w.digit : Int) * pw (n - (p.2 + 1))) = true then some (takeS (p.2 + 1) w.digit p.1, p.2) else none)
/-- k times -/
def itO (n : Nat) (w : RW) : Nat → WS × Nat → Option (WS × Nat)
 | 0, p => some p
 | k + 1, p => (itO n w k p).bind (stO n w)
def wdO (n : Nat) (w : RW) (p : WS × Nat) : Option (WS × Nat) := itO n w w.times p
/-- words carried out -/
def runO (n : Nat) (ws : List RW) (p : WS × Nat) : Option (WS × Nat) := ws.foldl (fun o w => o.bind (wdO n w)) (some p)
/-- how many words can be carried out -/
def doneN (n : Nat) : List RW → WS × Nat → Nat
 | [], _ => 0
 | w :: ws, p => match wdO n w p with
   | none => 0
   | some q => 1 + doneN n ws q
theorem runO_none (n : Nat) (ws : List RW) : ws.foldl (fun (o : Option (WS × Nat)) w => o.bind (wdO n w)) none = none := by
 induction ws with
 | nil => rfl
 | cons w ws ih => exact ih
theorem runO_cons (n : Nat) (w : RW) (ws : List RW) (p : WS × Nat) : runO n (w :: ws) p = (wdO n w p).bind (runO n ws) := by
 unfold runO
 rw [List.foldl_cons]
 simp only [Option.bind_some]
 rcases wdO n w p with _ | q
 · exact runO_none n ws
 · rfl
theorem runO_take {n : Nat} {ws : List RW} {k : Nat} {p q : WS × Nat} {w : RW} (h : runO n (ws.take k) p = some q) (hw : ws[k]? = some w) : runO n (ws.take (k + 1)) p = wdO n w q := by
 unfold runO at h ⊢
 rw [List.take_add_one, hw]
 simp [List.foldl_append, h]
theorem doneN_split (n : Nat) : ∀ (ws : List RW) (k : Nat) (p q : WS × Nat), k ≤ ws.length → runO n (ws.take k) p = some q → doneN n ws p = k + doneN n (ws.drop k) q := by
 intro ws
 induction ws with
 | nil => intro k p q hk h; simp at hk; subst hk; simp [runO] at h; subst h; simp
 | cons w ws ih =>
   intro k p q hk h
   rcases k with _ | k
   · simp [runO] at h; subst h; simp
   · rw [List.take_succ_cons, runO_cons] at h
     rcases hw : wdO n w p with _ | p'
     · rw [hw] at h; cases h
     · rw [hw] at h
       have := ih k p' q (by simpa using hk) h
       rw [doneN, hw]
       simp only [List.drop_succ_cons]
       omega
theorem done_at {n k : Nat} {ws : List RW} {p q : WS × Nat} {w : RW} (h : runO n (ws.take k) p = some q) (hw : ws[k]? = some w) (hn : wdO n w q = none) : doneN n ws p = k ∧ runO n ws p = none := by
 have hk := (List.getElem?_eq_some_iff.1 hw).1
 refine ⟨?_, ?_⟩
 · rw [doneN_split n ws k p q (by omega) h, List.drop_eq_getElem_cons hk, doneN]
   rw [List.getElem?_eq_getElem hk] at hw
   injection hw with hw
   rw [hw, hn]
   rfl
 · unfold runO at h ⊢
   conv => lhs; rw [← List.take_append_drop k ws]
   rw [List.foldl_append, h, List.drop_eq_getElem_cons hk, List.foldl_cons]
   rw [List.getElem?_eq_getElem hk] at hw
   injection hw with hw
   rw [hw]
   simp only [Option.bind_some]
   rw [hn]
   exact runO_none n _
theorem done_all {n : Nat} {ws : List RW} {p q : WS × Nat} (h : runO n ws p = some q) : doneN n ws p = ws.length := by
 have := doneN_split n ws ws.length p q (Nat.le_refl _) (by rw [List.take_of_length_le (Nat.le_refl _)]; exact h)
 rw [this]
 simp [doneN]
theorem doneN_le (n : Nat) : ∀ (ws : List RW) (p : WS × Nat), doneN n ws p ≤ ws.length := by
 intro ws
 induction ws with
 | nil => intro p; exact Nat.le_refl _
 | cons w ws ih =>
   intro p
   rw [doneN]
   rcases wdO n w p with _ | q
   · simp
   · have := ih q; simp only [List.length_cons]; omega
theorem done_less {n : Nat} {ws : List RW} {p : WS × Nat} (h : runO n ws p = none) : doneN n ws p < ws.length := by
 revert p
 induction ws with
 | nil => intro p h; simp [runO] at h
 | cons w ws ih =>
   intro p h
   rw [runO_cons] at h
   rw [doneN]
   rcases hw : wdO n w p with _ | q
   · simp
   · rw [hw] at h
     have := ih (p := q) h
     simp only [List.length_cons]
     omega
/-- what stays true of a worker on a frame of n rods -/
def Inv (n : Nat) (p : WS × Nat) : Prop := WF p.1.ds ∧ p.1.ds.length = n ∧ p.2 < n
theorem canB_fit {n r d : Nat} {ds : List Int} (hw : WF ds) (hn : ds.length = n) (hr : r < n) (d9 : d ≤ 9) (h : canB (rodsD ds) ((d : Int) * pw (n - (r + 1))) = true) : AddFit (r + 1) d ds := by
 have := canAdd_fit h
 rw [dsOf_rodsD] at this
 refine ⟨by omega, by omega, by omega, hw, ?_⟩
 rw [hn] at this ⊢
 exact this
theorem canTB_fit {n r d : Nat} {ds : List Int} (hw : WF ds) (hn : ds.length = n) (hr : r < n) (d9 : d ≤ 9) (h : canTB (rodsD ds) ((d : Int) * pw (n - (r + 1))) = true) : TakeFit (r + 1) d ds := by
 have := canTake_fit h
 rw [dsOf_rodsD] at this
 refine ⟨by omega, by omega, by omega, hw, ?_⟩
 rw [hn]
 exact this
theorem okW_d {w : RW} (h : okW w) : w.digit ≤ 9 := by rcases h.2 with ⟨_, h⟩ | ⟨_, _, h⟩ <;> omega
theorem stO_inv {n : Nat} {w : RW} {p q : WS × Nat} (hw : okW w) (hi : Inv n p) (h : stO n w p = some q) : Inv n q ∧ q.1.ms.length ≤ p.1.ms.length + 16 * n ∧ (0 ≤ p.1.ask → 0 ≤ q.1.ask) ∧ q.1.ask ≤ p.1.ask + n := by
 obtain ⟨h1, h2, h3⟩ := hi
 have hd := okW_d hw
 unfold stO at h
 split at h
 · split at h
   · injection h with h
     subst h
     exact ⟨⟨h1, h2, by dsimp only; omega⟩, by dsimp only; omega, fun h => h, by dsimp only; omega⟩
   · cases h
 split at h
 · split at h
   · injection h with h
     subst h
     exact ⟨⟨h1, h2, by dsimp only; omega⟩, by dsimp only; omega, fun h => h, by dsimp only; omega⟩
   · cases h
 split at h
 · injection h with h
   subst h
   refine ⟨⟨h1.set _ (by omega) (by omega), by dsimp only; rw [List.length_set]; exact h2, h3⟩, ?_, fun h => h, by dsimp only; omega⟩
   have := turnM_len p.2 (p.1.ds.getD p.2 0) 0
   simp only [List.length_append]
   omega
 split at h
 · split at h
   · rename_i hc
     injection h with h
     subst h
     have hf := canB_fit h1 h2 h3 hd hc
     have hm := addS_msl (p.2 + 1) w.digit p.1
     have ha := addS_ask (p.2 + 1) w.digit p.1
     exact ⟨⟨addS_WF _ _ _ (by omega) h1, by rw [addS_len]; exact h2, h3⟩, by dsimp only; omega, fun _ => by dsimp only; omega, by dsimp only; omega⟩
   · cases h
 · split at h
   · rename_i hc
     injection h with h
     subst h
     have hm := takeS_msl (p.2 + 1) w.digit p.1
     have ha := takeS_ask (p.2 + 1) w.digit p.1
     exact ⟨⟨takeS_WF _ _ _ (by omega) (by omega) h1, by rw [takeS_len]; exact h2, h3⟩, by dsimp only; omega, fun _ => by dsimp only; omega, by dsimp only; omega⟩
   · cases h
/-- bounds of a worker after so many steps -/
def Bd (n m : Nat) (p : WS × Nat) : Prop := Inv n p ∧ p.1.ms.length ≤ 16 * n * m ∧ 0 ≤ p.1.ask ∧ p.1.ask ≤ n * m
theorem Bd.step {n m : Nat} {w : RW} {p q : WS × Nat} (hw : okW w) (hb : Bd n m p) (h : stO n w p = some q) : Bd n (m + 1) q := by
 obtain ⟨h1, h2, h3, h4⟩ := hb
 obtain ⟨k1, k2, k3, k4⟩ := stO_inv hw h1 h
 have e1 : 16 * n * (m + 1) = 16 * n * m + 16 * n := by rw [Nat.mul_add, Nat.mul_one]
 have e2 : ((n * (m + 1) : Nat) : Int) = (n * m : Nat) + n := by rw [Nat.mul_add, Nat.mul_one]; omega
 refine ⟨k1, by omega, k3 h3, ?_⟩
 have h4' : p.1.ask ≤ ((n * m : Nat) : Int) := by push_cast; exact h4
 have : q.1.ask ≤ ((n * (m + 1) : Nat) : Int) := by omega
 push_cast at this
 exact this
theorem itO_some {n : Nat} {w : RW} {k j : Nat} {p : WS × Nat} (hj : j ≤ k) (h : (itO n w k p).isSome = true) : (itO n w j p).isSome = true := by
 induction k with
 | zero => cases (Nat.le_zero.1 hj); exact h
 | succ k ih =>
   rcases Nat.lt_or_ge j (k + 1) with hlt | hge
   · refine ih (by omega) ?_
     rw [itO] at h
     rcases hq : itO n w k p with _ | q
     · rw [hq] at h; cases h
     · rfl
   · obtain rfl : j = k + 1 := by omega
     exact h
theorem itO_none {n : Nat} {w : RW} {k j : Nat} {p : WS × Nat} (hj : j ≤ k) (h : itO n w j p = none) : itO n w k p = none := by
 rcases hq : itO n w k p with _ | q
 · rfl
 · have := itO_some hj (by rw [hq]; rfl)
   rw [h] at this
   cases this
end Go.Proofs.Ytgjbkdnbaphfkaa
namespace Go.Proofs.Ytgjbkdnbaphfkaa
open Go.RowKit
set_option linter.unusedVariables false
set_option linter.unusedSimpArgs false
abbrev RW.val (r : RW) : Value := .agg #[.int .i64 (r.times : Int), .int .u8 (r.what.toNat : Int), .int .i64 (r.digit : Int)]
def RetWd (o : Option RW) (w : World) (e : Ending) (w' : World) : Prop :=
 match o with
 | some r => e = .returned (.tuple #[r.val, .bool true]) ∧ Below w.heap.size w w'
 | none => ∃ a b d : Int, e = .returned (.tuple #[.agg #[.int .i64 a, .int .u8 b, .int .i64 d], .bool false]) ∧ Below w.heap.size w w'
theorem c60 {c : UInt8} : c = 60 ↔ c.toNat = 60 := ⟨fun h => by rw [h]; rfl, fun h => UInt8.toNat_inj.1 h⟩
theorem c62 {c : UInt8} : c = 62 ↔ c.toNat = 62 := ⟨fun h => by rw [h]; rfl, fun h => UInt8.toNat_inj.1 h⟩
theorem c99 {c : UInt8} : c = 99 ↔ c.toNat = 99 := ⟨fun h => by rw [h]; rfl, fun h => UInt8.toNat_inj.1 h⟩
theorem c43 {c : UInt8} : c = 43 ↔ c.toNat = 43 := ⟨fun h => by rw [h]; rfl, fun h => UInt8.toNat_inj.1 h⟩
theorem c45 {c : UInt8} : c = 45 ↔ c.toNat = 45 := ⟨fun h => by rw [h]; rfl, fun h => UInt8.toNat_inj.1 h⟩
theorem bl_cons {s : ByteArray} (hp : 0 < s.size) : bl s = s[0] :: (bl s).drop 1 := by
 have h := bl_get hp
 obtain ⟨hi, e⟩ := List.getElem?_eq_some_iff.1 h
 conv => lhs; rw [← List.drop_zero (l := bl s), List.drop_eq_getElem_cons hi]
 rw [e]
theorem bl_one {s : ByteArray} (h : s.size = 1) (hp : 0 < s.size) : bl s = [s[0]] := by
 rw [bl_cons hp, List.drop_of_length_le (by rw [bl_size]; omega)]
theorem bl_two {s : ByteArray} (h : s.size = 2) (hp : 0 < s.size) (hp1 : 1 < s.size) : bl s = [s[0], s[1]] := by
 obtain ⟨hi, e⟩ := List.getElem?_eq_some_iff.1 (bl_get hp1)
 rw [bl_cons hp, List.drop_eq_getElem_cons hi, e, List.drop_of_length_le (by rw [bl_size]; omega)]
theorem plain_one {s : ByteArray} (h : s.size = 1) (hp : 0 < s.size) : plainO (bl s) = if s[0] = 60 ∨ s[0] = 62 ∨ s[0] = 99 then some (s[0], 0) else none := by rw [bl_one h hp]; rfl
theorem plain_two {s : ByteArray} (h : s.size = 2) (hp : 0 < s.size) (hp1 : 1 < s.size) : plainO (bl s) = if (s[0] = 43 ∨ s[0] = 45) ∧ digB s[1] = true then some (s[0], s[1].toNat - 48) else none := by rw [bl_two h hp hp1]; rfl
theorem plain_more {s : ByteArray} (h : 3 ≤ s.size) : plainO (bl s) = none := by
 have hl := bl_size s
 match e : bl s with
 | [] => rfl
 | [a] => rw [e] at hl; simp at hl; omega
 | [a, b] => rw [e] at hl; simp at hl; omega
 | a :: b :: c :: l => rfl
theorem wordO_cons (c : UInt8) (rest : List UInt8) : wordO (c :: rest) = if repB c = true ∧ rest ≠ [] then (plainO rest).map fun p => ⟨c.toNat - 48, p.1, p.2⟩ else (plainO (c :: rest)).map fun p => ⟨1, p.1, p.2⟩ := rfl
theorem wordO_rep {s : ByteArray} (h1 : 1 < s.size) {hp : 0 < s.size} (hr1 : 50 ≤ (s[0]'hp).toNat) (hr2 : (s[0]'hp).toNat ≤ 57) : wordO (bl s) = (plainO ((bl s).drop 1)).map fun p => ⟨(s[0]'hp).toNat - 48, p.1, p.2⟩ := by
 rw [bl_cons hp, wordO_cons, if_pos ⟨by simp [repB]; omega, by intro e; have := congrArg List.length e; rw [List.length_drop, bl_size] at this; simp at this; omega⟩]
 rw [List.drop_succ_cons, List.drop_zero]
theorem wordO_one {s : ByteArray} (hp : 0 < s.size) (h : ¬ ((50 ≤ (s[0]'hp).toNat ∧ (s[0]'hp).toNat ≤ 57) ∧ 1 < s.size)) : wordO (bl s) = (plainO (bl s)).map fun p => ⟨1, p.1, p.2⟩ := by
 conv => lhs; rw [bl_cons hp]
 rw [wordO_cons, if_neg, ← bl_cons hp]
 rintro ⟨e1, e2⟩
 simp only [repB, decide_eq_true_eq] at e1
 refine h ⟨e1, ?_⟩
 rcases Nat.lt_or_ge 1 s.size with h1 | h1
 · exact h1
 · exact absurd (List.drop_of_length_le (by rw [bl_size]; exact h1)) e2
end Go.Proofs.Ytgjbkdnbaphfkaa
namespace Go.Proofs.Ytgjbkdnbaphfkaa
open Go.RowKit
set_option linter.unusedVariables false
set_option linter.unusedSimpArgs false
theorem lit_iff (s : ByteArray) (L : List UInt8) : (s.toList == L) = decide (bl s = L) := by
 rw [Bool.eq_iff_iff, beq_iff_eq, ByteArray.toList_eq, decide_eq_true_eq]
 exact Iff.rfl
def RW.cells (r : RW) : List Value := [.int .i64 (r.times : Int), .int .u8 (r.what.toNat : Int), .int .i64 (r.digit : Int)]
def rwV (l : List RW) : List Value := l.flatMap RW.cells
theorem rwV_len (l : List RW) : (rwV l).length = l.length * 3 := flat_len RW.cells 3 (fun _ => rfl) l
theorem rwV_app (l m : List RW) : rwV (l ++ m) = rwV l ++ rwV m := by simp [rwV]
theorem rw_at {w : World} {B n : Nat} {A : Option Addr} {l : List RW} (h : Reads w B 3 A n (rwV l)) {k : Nat} {r : RW} (hr : l[k]? = some r) :
 ∃ b o, A = some ⟨b, o, none⟩ ∧ b < B ∧ w.cell? ⟨b, o + k * 3, none⟩ = some (.int .i64 (r.times : Int)) ∧ w.cell? ⟨b, o + k * 3 + 1, none⟩ = some (.int .u8 (r.what.toNat : Int)) ∧ w.cell? ⟨b, o + k * 3 + 2, none⟩ = some (.int .i64 (r.digit : Int)) := by
 have hk : k < l.length := (List.getElem?_eq_some_iff.1 hr).1
 have hn : l.length * 3 = n * 3 := by rw [← rwV_len]; exact h.1
 obtain ⟨b, o, hA, hb, hc⟩ := h.2 (by omega)
 have h0 : (rwV l)[k * 3 + 0]? = some (.int .i64 (r.times : Int)) := flat_get RW.cells 3 (fun _ => rfl) l k 0 r hr (by omega)
 have h1 : (rwV l)[k * 3 + 1]? = some (.int .u8 (r.what.toNat : Int)) := flat_get RW.cells 3 (fun _ => rfl) l k 1 r hr (by omega)
 have h2 : (rwV l)[k * 3 + 2]? = some (.int .i64 (r.digit : Int)) := flat_get RW.cells 3 (fun _ => rfl) l k 2 r hr (by omega)
 exact ⟨b, o, hA, hb, hc _ _ h0, hc _ _ h1, hc _ _ h2⟩
theorem rw_len {w : World} {B n : Nat} {A : Option Addr} {l : List RW} (h : Reads w B 3 A n (rwV l)) : l.length = n := by
 have := h.1; rw [rwV_len] at this; omega
theorem strs_at {w : World} {B n : Nat} {A : Option Addr} {P : List (List UInt8)} (h : Reads w B 1 A n (strsV P)) {k : Nat} {x : List UInt8} (hx : P[k]? = some x) :
 ∃ b o, A = some ⟨b, o, none⟩ ∧ b < B ∧ w.cell? ⟨b, o + k, none⟩ = some (.string (str x)) := by
 have hk : k < P.length := (List.getElem?_eq_some_iff.1 hx).1
 have hn : P.length = n * 1 := by have := h.1; simpa [strsV] using this
 obtain ⟨b, o, hA, hb, hc⟩ := h.2 (by omega)
 exact ⟨b, o, hA, hb, hc _ _ (by simp [strsV, hx])⟩
theorem strs_len {w : World} {B n : Nat} {A : Option Addr} {P : List (List UInt8)} (h : Reads w B 1 A n (strsV P)) : P.length = n := by
 have := h.1; simpa [strsV] using this
theorem splitL_part (b : UInt8) : ∀ (l x : List UInt8), x ∈ splitL b l → x.length ≤ l.length := by
 intro l
 induction l with
 | nil => intro x hx; simp [splitL] at hx; subst hx; simp
 | cons c l ih =>
   intro x hx
   by_cases hc : c = b
   · subst hc
     rw [splitL_hit] at hx
     rcases List.mem_cons.1 hx with rfl | hx
     · simp
     · have := ih x hx; simp only [List.length_cons]; omega
   · rw [splitL_miss hc] at hx
     unfold glue at hx
     split at hx
     · rename_i e; exact absurd e (splitL_ne b l)
     · rename_i h t e
       rcases List.mem_cons.1 hx with rfl | hx
       · have := ih h (by rw [e]; exact List.mem_cons_self ..)
         simp only [List.length_append, List.length_cons, List.length_nil]
         omega
       · have := ih x (by rw [e]; exact List.mem_cons_of_mem _ hx)
         simp only [List.length_cons]; omega
theorem words_part {s : ByteArray} {x : List UInt8} (h : x ∈ wordsL s) : x.length ≤ s.size := by
 unfold wordsL at h
 split at h
 · cases h
 · have := splitL_part 32 _ x h; rw [bl_size] at this; exact this
theorem str_size (x : List UInt8) : (str x).size = x.length := by rw [← bl_size, bl_str]
def okTo (P : List (List UInt8)) (k : Nat) : Bool := (P.take k).all fun l => (wordO l).isSome
theorem okTo_more {P : List (List UInt8)} {k : Nat} {x : List UInt8} (h : okTo P k = true) (hx : P[k]? = some x) (ho : (wordO x).isSome = true) : okTo P (k + 1) = true := by
 unfold okTo at h ⊢
 rw [List.take_add_one, hx]
 simp [h, ho]
theorem ok_bad {P : List (List UInt8)} {k : Nat} {x : List UInt8} (hx : P[k]? = some x) (ho : wordO x = none) : (P.all fun l => (wordO l).isSome) = false := by
 rw [List.all_eq_false]
 exact ⟨x, List.mem_of_getElem? hx, by simp [ho]⟩
theorem map_more {P : List (List UInt8)} {k : Nat} {x : List UInt8} {r : RW} (hx : P[k]? = some x) (ho : wordO x = some r) : (P.take (k + 1)).map wd = (P.take k).map wd ++ [r] := by
 rw [List.take_add_one, hx]
 simp [wd, ho]
def scrL (s : ByteArray) : List RW := if scrB s = true then rulesL s else []
end Go.Proofs.Ytgjbkdnbaphfkaa
namespace Go.Proofs.Ytgjbkdnbaphfkaa
open Go.RowKit
set_option linter.unusedVariables false
set_option linter.unusedSimpArgs false
/-- a move of beads -/
def okM (m : R3) : Bool := inB m.a 0 7 && inB m.b 0 1 && inB m.c (-5) 5 && (m.c != 0)
def mvsB (ms : List R3) : Bool := decide (ms.length ≤ 60) && ms.all okM
def rcdB (ms : List R3) : Bool := decide (ms.length ≤ 12) && mvsB ms
theorem okM_iff {m : R3} : okM m = true ↔ (0 ≤ m.a ∧ m.a ≤ 7) ∧ (0 ≤ m.b ∧ m.b ≤ 1) ∧ (-5 ≤ m.c ∧ m.c ≤ 5) ∧ m.c ≠ 0 := by
 simp only [okM, Bool.and_eq_true, inB_iff, bne_iff_ne]
 exact ⟨fun ⟨⟨⟨a, b⟩, c⟩, d⟩ => ⟨a, b, c, d⟩, fun ⟨a, b, c, d⟩ => ⟨⟨⟨a, b⟩, c⟩, d⟩⟩
theorem all_snoc3 {l : List R3} {k : Nat} {r : R3} {p : R3 → Bool} (h : (l.take k).all p = true) (hr : l[k]? = some r) (hp : p r = true) : (l.take (k + 1)).all p = true := by
 rw [List.take_add_one, hr]
 simp [h, hp]
theorem all_bad3 {l : List R3} {k : Nat} {r : R3} {p : R3 → Bool} (hr : l[k]? = some r) (hp : p r = false) : l.all p = false := by
 rw [List.all_eq_false]
 exact ⟨r, List.mem_of_getElem? hr, by simp [hp]⟩
theorem all_whole3 {l : List R3} {k : Nat} {p : R3 → Bool} (h : (l.take k).all p = true) (hk : l.length ≤ k) : l.all p = true := by rwa [List.take_of_length_le hk] at h
theorem within_c (n lo hi : Int) (b : Bool) (w : World) (hb : inB n lo hi = b) :
 Calls Try.prog 24 #[.int .i64 n, .int .i64 lo, .int .i64 hi] w fun e w' => e = .returned (.bool b) ∧ w = w' := by
 subst hb; exact inB_within n lo hi w
theorem l1In_c (n lo hi : Int) (b : Bool) (w : World) (hb : inB n lo hi = b) :
 Calls Try.prog 40 #[.int .i64 n, .int .i64 lo, .int .i64 hi] w fun e w' => e = .returned (.bool b) ∧ w = w' := by
 subst hb; exact inB_l1In n lo hi w
/-- how many beads -/
def ab (z : Int) : Int := if z < 0 then -z else z
theorem ab_le {z : Int} (h : -1000 ≤ z ∧ z ≤ 1000) : 0 ≤ ab z ∧ ab z ≤ 1000 := by unfold ab; split <;> omega
def beads (ms : List R3) : Int := ms.foldl (fun s m => s + ab m.c) 0
theorem beads_take {ms : List R3} {k : Nat} {m : R3} (h : ms[k]? = some m) : beads (ms.take (k + 1)) = beads (ms.take k) + ab m.c := by
 unfold beads
 rw [List.take_add_one, h]
 simp [List.foldl_append]
theorem beads_all (ms : List R3) (k : Nat) (h : ms.length ≤ k) : beads (ms.take k) = beads ms := by rw [List.take_of_length_le h]
def smallM (ms : List R3) : Prop := ∀ m ∈ ms, -1000 ≤ m.c ∧ m.c ≤ 1000
theorem beads_bound {ms : List R3} (h : smallM ms) (k : Nat) : 0 ≤ beads (ms.take k) ∧ beads (ms.take k) ≤ 1000 * k := by
 induction k with
 | zero => simp [beads]
 | succ k ih =>
   rcases hm : ms[k]? with _ | m
   · rw [List.getElem?_eq_none_iff] at hm
     rw [List.take_of_length_le (by omega)]
     rw [List.take_of_length_le hm] at ih
     omega
   · rw [beads_take hm]
     have := ab_le (h m (List.mem_of_getElem? hm))
     omega
end Go.Proofs.Ytgjbkdnbaphfkaa
namespace Go.Proofs.Ytgjbkdnbaphfkaa
open Go.RowKit
set_option linter.unusedVariables false
set_option linter.unusedSimpArgs false
def bump (r : R2) (m : R3) : R2 := if m.b = 0 then ⟨r.a + m.c, r.b⟩ else ⟨r.a, r.b + m.c⟩
def mvL (l : List R2) (m : R3) : List R2 := l.set m.a.toNat (bump (l.getD m.a.toNat ⟨0, 0⟩) m)
def mvB (u lo : Int) (l : List R2) (m : R3) : Bool := decide (m.a < l.length) && frB u lo (mvL l m)
def mvF (u lo : Int) (l : List R2) (m : R3) : Int × Int × List R2 := if mvB u lo l m = true then (u, lo, mvL l m) else (0, 0, [])
theorem mvL_len (l : List R2) (m : R3) : (mvL l m).length = l.length := by simp [mvL]
theorem set_same {α : Type} {xs : List α} {i : Nat} {v : α} (h : xs[i]? = some v) : xs.set i v = xs := by
 obtain ⟨hi, e⟩ := List.getElem?_eq_some_iff.1 h
 rw [← e]
 exact List.set_getElem_self hi
theorem rowsV2_set0 {l : List R2} {i : Nat} {x : R2} (h : l[i]? = some x) (z : Int) : rowsV2 (l.set i ⟨z, x.b⟩) = (rowsV2 l).set (i * 2) (.int .i64 z) := by
 have hi : i < l.length := (List.getElem?_eq_some_iff.1 h).1
 rw [rowsV2_set _ _ _ hi]
 refine set_same ?_
 rw [List.getElem?_set_ne (by omega)]
 exact (rowsV_get2 h).2
theorem rowsV2_set1 {l : List R2} {i : Nat} {x : R2} (h : l[i]? = some x) (z : Int) : rowsV2 (l.set i ⟨x.a, z⟩) = (rowsV2 l).set (i * 2 + 1) (.int .i64 z) := by
 have hi : i < l.length := (List.getElem?_eq_some_iff.1 h).1
 rw [rowsV2_set _ _ _ hi]
 dsimp only
 rw [set_same (xs := rowsV2 l) (i := i * 2) (by simpa using (rowsV_get2 h).1)]
end Go.Proofs.Ytgjbkdnbaphfkaa
namespace Go.Proofs.Ytgjbkdnbaphfkaa
open Go.RowKit
set_option linter.unusedVariables false
set_option linter.unusedSimpArgs false
end Go.Proofs.Ytgjbkdnbaphfkaa
namespace Go.Proofs.Ytgjbkdnbaphfkaa
open Go.RowKit
set_option linter.unusedVariables false
set_option linter.unusedSimpArgs false
def playS (u lo : Int) (l : List R2) (ms : List R3) : Option (List R2) := ms.foldl (fun o m => o.bind fun x => if mvB u lo x m = true then some (mvL x m) else none) (some l)
def playF (u lo : Int) (l : List R2) (ms : List R3) : Int × Int × List R2 := match playS u lo l ms with | some x => (u, lo, x) | none => (0, 0, [])
theorem play_take {u lo : Int} {l : List R2} {ms : List R3} {k : Nat} {x : List R2} {m : R3} (h : playS u lo l (ms.take k) = some x) (hm : ms[k]? = some m) : playS u lo l (ms.take (k + 1)) = if mvB u lo x m = true then some (mvL x m) else none := by
 unfold playS at h ⊢
 rw [List.take_add_one, hm]
 simp [List.foldl_append, h]
theorem fold_none {u lo : Int} (ms : List R3) : ms.foldl (fun (o : Option (List R2)) m => o.bind fun x => if mvB u lo x m = true then some (mvL x m) else none) none = none := by
 induction ms with
 | nil => rfl
 | cons m ms ih => exact ih
theorem play_none {u lo : Int} {l : List R2} {ms : List R3} {k : Nat} (h : playS u lo l (ms.take k) = none) : playF u lo l ms = (0, 0, []) ∧ (playS u lo l ms).isSome = false := by
 have e : playS u lo l ms = none := by
  unfold playS at h ⊢
  conv => lhs; rw [← List.take_append_drop k ms]
  rw [List.foldl_append, h]
  exact fold_none _
 unfold playF
 rw [e]
 exact ⟨rfl, rfl⟩
theorem mvB_fr {u lo : Int} {x : List R2} {m : R3} (h : mvB u lo x m = true) : frB u lo (mvL x m) = true := by
 unfold mvB at h
 simp only [Bool.and_eq_true] at h
 exact h.2
end Go.Proofs.Ytgjbkdnbaphfkaa
namespace Go.Proofs.Ytgjbkdnbaphfkaa
open Go.RowKit
set_option linter.unusedVariables false
set_option linter.unusedSimpArgs false
theorem play_app (u lo : Int) (l : List R2) (ms ns : List R3) : playS u lo l (ms ++ ns) = (playS u lo l ms).bind fun x => playS u lo x ns := by
 unfold playS
 rw [List.foldl_append]
 cases h : ms.foldl (fun (o : Option (List R2)) m => o.bind fun x => if mvB u lo x m = true then some (mvL x m) else none) (some l) with
 | none => exact fold_none ns
 | some x => rfl
theorem play_one {u lo : Int} {l : List R2} {m : R3} (h : mvB u lo l m = true) : playS u lo l [m] = some (mvL l m) := by
 unfold playS
 simp [h]
theorem frB_set {u lo : Int} {l : List R2} {r : Nat} {x : R2} (h : frB u lo l = true) (hx : rodB u lo x = true) : frB u lo (l.set r x) = true := by
 simp only [frB, Bool.and_eq_true, List.all_eq_true] at h ⊢
 refine ⟨by rw [List.length_set]; exact h.1, fun y hy => ?_⟩
 rcases List.mem_or_eq_of_mem_set hy with hy | rfl
 · exact h.2 y hy
 · exact hx
theorem frB_rodsD {u lo : Int} {ds : List Int} (hh : headB u lo ds.length = true) (hw : WF ds) : frB u lo (rodsD ds) = true := by
 have h2 := hh
 simp only [headB, Bool.and_eq_true, inB_iff] at h2
 simp only [frB, Bool.and_eq_true, List.all_eq_true]
 refine ⟨by rw [rodsD_len]; exact hh, fun y hy => ?_⟩
 unfold rodsD at hy
 obtain ⟨d, hd, rfl⟩ := List.mem_map.1 hy
 have := hw d hd
 unfold rodB rodD
 simp only [Bool.and_eq_true, inB_iff]
 omega
theorem turn_up {u lo : Int} {l : List R2} (h : frB u lo l = true) {r : Nat} {x : R2} {a : Int} (hr : l[r]? = some x) (ha : 0 ≤ a ∧ a ≤ 1) (hx : 0 ≤ x.a ∧ x.a ≤ 1) : playS u lo l (if a - x.a = 0 then [] else [⟨r, 0, a - x.a⟩]) = some (l.set r ⟨a, x.b⟩) ∧ (if a - x.a = 0 then ([] : List R3) else [⟨r, 0, a - x.a⟩]).all okM = true := by
 obtain ⟨hu, hlo, h1, h8⟩ := frB_head h
 have hrl : r < l.length := (List.getElem?_eq_some_iff.1 hr).1
 have hrod := frB_rod h hr
 by_cases e : a - x.a = 0
 · rw [if_pos e]
   refine ⟨?_, rfl⟩
   have : (⟨a, x.b⟩ : R2) = x := by rw [R2.eq_iff]; exact ⟨by show a = x.a; omega, rfl⟩
   rw [this, set_same hr]
   rfl
 · rw [if_neg e]
   have hb : bump x ⟨r, 0, a - x.a⟩ = ⟨a, x.b⟩ := by
    unfold bump
    rw [if_pos rfl, R2.eq_iff]
    exact ⟨by show x.a + (a - x.a) = a; omega, rfl⟩
   have hg : l.getD r ⟨0, 0⟩ = x := by rw [List.getD_eq_getElem?_getD, hr]; rfl
   have hm : mvL l ⟨r, 0, a - x.a⟩ = l.set r ⟨a, x.b⟩ := by
    show l.set (r : Int).toNat (bump (l.getD (r : Int).toNat ⟨0, 0⟩) ⟨r, 0, a - x.a⟩) = _
    rw [Int.toNat_natCast, hg, hb]
   refine ⟨?_, ?_⟩
   · rw [play_one, hm]
     unfold mvB
     rw [hm, frB_set h]
     · simp; exact hrl
     · unfold rodB
       simp only [Bool.and_eq_true, inB_iff]
       omega
   · simp only [List.all_cons, List.all_nil, Bool.and_true, okM_iff]
     exact ⟨by omega, by omega, by omega, e⟩
theorem turn_lo {u lo : Int} {l : List R2} (h : frB u lo l = true) {r : Nat} {x : R2} {b : Int} (hr : l[r]? = some x) (hb : 0 ≤ b ∧ b ≤ 4) (hx : 0 ≤ x.b ∧ x.b ≤ 4) : playS u lo l (if b - x.b = 0 then [] else [⟨r, 1, b - x.b⟩]) = some (l.set r ⟨x.a, b⟩) ∧ (if b - x.b = 0 then ([] : List R3) else [⟨r, 1, b - x.b⟩]).all okM = true := by
 obtain ⟨hu, hlo, h1, h8⟩ := frB_head h
 have hrl : r < l.length := (List.getElem?_eq_some_iff.1 hr).1
 have hrod := frB_rod h hr
 by_cases e : b - x.b = 0
 · rw [if_pos e]
   refine ⟨?_, rfl⟩
   have : (⟨x.a, b⟩ : R2) = x := by rw [R2.eq_iff]; exact ⟨rfl, by show b = x.b; omega⟩
   rw [this, set_same hr]
   rfl
 · rw [if_neg e]
   have hb : bump x ⟨r, 1, b - x.b⟩ = ⟨x.a, b⟩ := by
    unfold bump
    rw [if_neg (show ¬ (1 : Int) = 0 by decide), R2.eq_iff]
    exact ⟨rfl, by show x.b + (b - x.b) = b; omega⟩
   have hg : l.getD r ⟨0, 0⟩ = x := by rw [List.getD_eq_getElem?_getD, hr]; rfl
   have hm : mvL l ⟨r, 1, b - x.b⟩ = l.set r ⟨x.a, b⟩ := by
    show l.set (r : Int).toNat (bump (l.getD (r : Int).toNat ⟨0, 0⟩) ⟨r, 1, b - x.b⟩) = _
    rw [Int.toNat_natCast, hg, hb]
   refine ⟨?_, ?_⟩
   · rw [play_one, hm]
     unfold mvB
     rw [hm, frB_set h]
     · simp; exact hrl
     · unfold rodB
       simp only [Bool.and_eq_true, inB_iff]
       omega
   · simp only [List.all_cons, List.all_nil, Bool.and_true, okM_iff]
     exact ⟨by omega, by omega, by omega, e⟩
theorem play_turn {u lo : Int} {l : List R2} (h : frB u lo l = true) {r : Nat} {a v : Int} (hr : l[r]? = some (rodD a)) (ha : 0 ≤ a ∧ a ≤ 9) (hv : 0 ≤ v ∧ v ≤ 9) : playS u lo l (turnM r a v) = some (l.set r (rodD v)) ∧ (turnM r a v).all okM = true := by
 have hrl : r < l.length := (List.getElem?_eq_some_iff.1 hr).1
 obtain ⟨hu, hlo, h1, h8⟩ := frB_head h
 have e1 : (rodD a).a = a / 5 := rfl
 have e2 : (rodD a).b = a % 5 := rfl
 have e3 : (rodD v).a = v / 5 := rfl
 have e4 : (rodD v).b = v % 5 := rfl
 obtain ⟨p1, q1⟩ := turn_up h hr (a := (rodD v).a) (by rw [e3]; omega) (by rw [e1]; omega)
 have hf : frB u lo (l.set r ⟨(rodD v).a, (rodD a).b⟩) = true := frB_set h (by
  unfold rodB
  simp only [Bool.and_eq_true, inB_iff, e2, e3]
  omega)
 obtain ⟨p2, q2⟩ := turn_lo hf (r := r) (x := ⟨(rodD v).a, (rodD a).b⟩) (b := (rodD v).b) (by rw [List.getElem?_set_self hrl]) (by rw [e4]; omega) (by show 0 ≤ (rodD a).b ∧ (rodD a).b ≤ 4; rw [e2]; omega)
 unfold turnM mvR
 refine ⟨?_, ?_⟩
 · rw [play_app, p1]
   show playS u lo (l.set r ⟨(rodD v).a, (rodD a).b⟩) _ = _
   rw [p2, List.set_set]
 · rw [List.all_append, q1, q2]; rfl
/-- from worker s on the moves, played, make the frame of worker s' -/
def Plays (u lo : Int) (s s' : WS) : Prop := s'.ds.length = s.ds.length ∧ ∃ ns, s'.ms = s.ms ++ ns ∧ ns.all okM = true ∧ playS u lo (rodsD s.ds) ns = some (rodsD s'.ds)
theorem Plays.refl (u lo : Int) (s : WS) : Plays u lo s s := ⟨rfl, [], by simp, rfl, rfl⟩
theorem Plays.trans {u lo : Int} {a b c : WS} (h : Plays u lo a b) (h2 : Plays u lo b c) : Plays u lo a c := by
 obtain ⟨l1, ns, e1, o1, p1⟩ := h
 obtain ⟨l2, ms, e2, o2, p2⟩ := h2
 refine ⟨by omega, ns ++ ms, by rw [e2, e1, List.append_assoc], by rw [List.all_append, o1, o2]; rfl, ?_⟩
 rw [play_app, p1]
 exact p2
theorem Plays.ask {u lo : Int} {s : WS} {ds : List Int} {ms : List R3} {q q' : Int} (h : Plays u lo s ⟨ds, ms, q⟩) : Plays u lo s ⟨ds, ms, q'⟩ := h
theorem Plays.turn {u lo : Int} (s : WS) {r : Nat} {v : Int} (q : Int) (hh : headB u lo s.ds.length = true) (hw : WF s.ds) (hr : r < s.ds.length) (hv : 0 ≤ v ∧ v ≤ 9) : Plays u lo s ⟨s.ds.set r v, s.ms ++ turnM r (s.ds.getD r 0) v, q⟩ := by
 obtain ⟨d, hd⟩ := list_split (l := s.ds) (k := r) hr
 have hg : s.ds.getD r 0 = d := by rw [List.getD_eq_getElem?_getD, hd]; rfl
 obtain ⟨p, o⟩ := play_turn (frB_rodsD hh hw) (rodsD_get hd) (hw.get hd) hv
 refine ⟨by simp, turnM r (s.ds.getD r 0) v, rfl, by rw [hg]; exact o, ?_⟩
 rw [hg, p]
 show some _ = some (rodsD (s.ds.set r v))
 rw [rodsD_set]
theorem addS_plays {u lo : Int} : ∀ (r : Nat) (d : Int) (s : WS), headB u lo s.ds.length = true → AddFit r d s.ds → Plays u lo s (addS r d s) := by
 intro r
 induction r with
 | zero => intro d s _ _; exact Plays.refl _ _ _
 | succ r ih =>
   intro d s hh hf
   by_cases h : 0 < d
   · rw [addS_pos s h]
     have hx := hf.2.2.2.1.getD r
     exact (Plays.turn s _ hh hf.2.2.2.1 hf.1 (by omega)).trans (ih _ _ (by show headB u lo (s.ds.set r _).length = true; rw [List.length_set]; exact hh) hf.step)
   · rw [addS_none s h]; exact Plays.refl _ _ _
theorem takeS_plays {u lo : Int} : ∀ (r : Nat) (d : Int) (s : WS), headB u lo s.ds.length = true → TakeFit r d s.ds → Plays u lo s (takeS r d s) := by
 intro r
 induction r with
 | zero => intro d s _ _; exact Plays.refl _ _ _
 | succ r ih =>
   intro d s hh hf
   by_cases h : 0 < d
   · have hv := hf.2.2.2.1.getD r
     by_cases hx : d ≤ s.ds.getD r 0
     · rw [takeS_in s h hx]
       exact Plays.turn s _ hh hf.2.2.2.1 hf.1 (by omega)
     · rw [takeS_left s h hx]
       exact (Plays.turn s _ hh hf.2.2.2.1 hf.1 (by have := hf.2.2.1; omega)).trans (ih _ _ (by show headB u lo (s.ds.set r _).length = true; rw [List.length_set]; exact hh) (hf.left hx))
   · rw [takeS_none s h]; exact Plays.refl _ _ _
theorem addN_plays {u lo : Int} {m : Int} {s : WS} (hh : headB u lo s.ds.length = true) (hw : WF s.ds) (h0 : 0 ≤ m) (hm : numD s.ds + m < pw s.ds.length) : ∀ k, k ≤ s.ds.length → Plays u lo s (addN s.ds.length m s k) := by
 intro k
 induction k with
 | zero => intro _; exact Plays.refl _ _ _
 | succ k ih =>
   intro hk
   refine (ih (by omega)).trans ?_
   rw [addN]
   exact addS_plays _ _ _ (by rw [addN_len]; exact hh) ((addN_facts hw h0 hm k (by omega)).2 (by omega))
theorem takeN_plays {u lo : Int} {m : Int} {s : WS} (hh : headB u lo s.ds.length = true) (hw : WF s.ds) (h0 : 0 ≤ m) (hm : m ≤ numD s.ds) : ∀ k, k ≤ s.ds.length → Plays u lo s (takeN s.ds.length m s k) := by
 intro k
 induction k with
 | zero => intro _; exact Plays.refl _ _ _
 | succ k ih =>
   intro hk
   refine (ih (by omega)).trans ?_
   rw [takeN]
   exact takeS_plays _ _ _ (by rw [takeN_len]; exact hh) ((takeN_facts hw h0 hm k (by omega)).2 (by omega))
theorem numD_inj : ∀ {a b : List Int}, WF a → WF b → a.length = b.length → numD a = numD b → a = b := by
 intro a
 induction a with
 | nil => intro b _ _ hl _; exact (List.eq_nil_of_length_eq_zero (by rw [← hl]; rfl)).symm
 | cons x a ih =>
   intro b ha hb hl he
   cases b with
   | nil => simp at hl
   | cons y b =>
     simp only [List.length_cons, Nat.add_right_cancel_iff] at hl
     have ha2 : WF a := fun z hz => ha z (List.mem_cons_of_mem _ hz)
     have hb2 : WF b := fun z hz => hb z (List.mem_cons_of_mem _ hz)
     have h1 := numD_bounds ha2
     have h2 := numD_bounds hb2
     rw [numD_cons, numD_cons, hl] at he
     rw [hl] at h1
     have hp := pw_pos b.length
     have hxy : x = y := by
      rcases Int.lt_trichotomy x y with h | h | h
      · have : (x + 1) * pw b.length ≤ y * pw b.length := Int.mul_le_mul_of_nonneg_right (by omega) (by omega)
        rw [Int.add_mul] at this
        omega
      · exact h
      · have : (y + 1) * pw b.length ≤ x * pw b.length := Int.mul_le_mul_of_nonneg_right (by omega) (by omega)
        rw [Int.add_mul] at this
        omega
     subst hxy
     rw [ih ha2 hb2 hl (by omega)]
/-- a standard frame is known by its number -/
theorem numR_rodsD (ds : List Int) : numR (rodsD ds) = numD ds := by unfold numR; rw [dsOf_rodsD]
end Go.Proofs.Ytgjbkdnbaphfkaa
namespace Go.Proofs.Ytgjbkdnbaphfkaa
open Go.RowKit
set_option linter.unusedVariables false
set_option linter.unusedSimpArgs false
end Go.Proofs.Ytgjbkdnbaphfkaa
namespace Go.Proofs.Ytgjbkdnbaphfkaa
open Go.RowKit
set_option linter.unusedVariables false
set_option linter.unusedSimpArgs false
def addDms (u lo : Int) (l : List R2) (rod d : Int) : List R3 := if addDigitB u lo l rod d = true then (addS (rod.toNat + 1) d ⟨dsOf l, [], 0⟩).ms else []
def takeDms (u lo : Int) (l : List R2) (rod d : Int) : List R3 := if takeDigitB u lo l rod d = true then (takeS (rod.toNat + 1) d ⟨dsOf l, [], 0⟩).ms else []
def addNst (l : List R2) (m : Int) : WS := addN l.length m ⟨dsOf l, [], 0⟩ l.length
def takeNst (l : List R2) (m : Int) : WS := takeN l.length m ⟨dsOf l, [], 0⟩ l.length
def addNok (u lo : Int) (l : List R2) (m : Int) : Bool := goodB u lo l && canB l m
def takeNok (u lo : Int) (l : List R2) (m : Int) : Bool := goodB u lo l && canTB l m
def addNmok (u lo : Int) (l : List R2) (m : Int) : Bool := addNok u lo l m && decide ((addNst l m).ms.length ≤ 60)
def takeNmok (u lo : Int) (l : List R2) (m : Int) : Bool := takeNok u lo l m && decide ((takeNst l m).ms.length ≤ 60)
def addNms (u lo : Int) (l : List R2) (m : Int) : List R3 := if addNmok u lo l m = true then (addNst l m).ms else []
def takeNms (u lo : Int) (l : List R2) (m : Int) : List R3 := if takeNmok u lo l m = true then (takeNst l m).ms else []
end Go.Proofs.Ytgjbkdnbaphfkaa
namespace Go.Proofs.Ytgjbkdnbaphfkaa
open Go.RowKit
set_option linter.unusedVariables false
set_option linter.unusedSimpArgs false
theorem l2Standard_b (u lo : Int) (A : Option Addr) (n c : Nat) (l : List R2) (w : World) (b : Bool) (hn : n ≤ 1048576) (h : Reads w w.heap.size 2 A n (rowsV2 l)) (hb : goodB u lo l = b) :
 Calls Try.prog 38 #[frV u lo A n c] w (RetV (.bool b) w) := by subst hb; exact l2Standard_any u lo A n c l w hn h
theorem good_fr {u lo : Int} {l : List R2} (h : goodB u lo l = true) : frB u lo l = true := by simp only [goodB, Bool.and_eq_true] at h; exact h.1
theorem good_std {u lo : Int} {l : List R2} (h : goodB u lo l = true) : stdB l = true := by simp only [goodB, Bool.and_eq_true] at h; exact h.2
/-- what the reference asks of a number to be added is what the program asks -/
theorem canB_ref {u lo : Int} {l : List R2} {m : Int} (hf : frB u lo l = true) (m0 : 0 ≤ m) : canB l m = decide (numR l + m < pw l.length) := by
 have hb := numR_bounds hf l.length
 rw [numR_all l _ (Nat.le_refl _)] at hb
 rw [Bool.eq_iff_iff]
 simp only [canB, Bool.and_eq_true, inB_iff, decide_eq_true_eq]
 omega
theorem canTB_ref {l : List R2} {m : Int} (m0 : 0 ≤ m) : canTB l m = decide (m ≤ numR l) := by
 rw [Bool.eq_iff_iff]
 simp only [canTB, inB_iff, decide_eq_true_eq]
 omega
end Go.Proofs.Ytgjbkdnbaphfkaa
namespace Go.Proofs.Ytgjbkdnbaphfkaa
open Go.RowKit
set_option linter.unusedVariables false
set_option linter.unusedSimpArgs false
theorem turnM_cases (r : Nat) (x v : Int) : turnM r x v = (if v / 5 - x / 5 = 0 then [] else [⟨(r : Int), 0, v / 5 - x / 5⟩]) ++ (if v % 5 - x % 5 = 0 then [] else [⟨(r : Int), 1, v % 5 - x % 5⟩]) := rfl
end Go.Proofs.Ytgjbkdnbaphfkaa
namespace Go.Proofs.Ytgjbkdnbaphfkaa
open Go.RowKit
set_option linter.unusedVariables false
set_option linter.unusedSimpArgs false
theorem l2Value_rod (x : Int) (w : World) (h0 : 0 ≤ x) (h9 : x ≤ 9) :
 Calls Try.prog 47 #[.agg #[.int .i64 (x / 5), .int .i64 (x % 5)]] w fun e w' => e = .returned (.int .i64 x) ∧ Below w.heap.size w w' := by
 have := l2Value_any (rodD x) w (rodD_Sm h0 (by omega))
 rw [dv_rodD] at this
 exact this
theorem TakeFit.nil {k : Nat} {ds : List Int} (hk : k ≤ ds.length) (h : WF ds) : TakeFit k 0 ds := ⟨hk, by omega, by omega, h, by have := numD_bounds h; simp; omega⟩
end Go.Proofs.Ytgjbkdnbaphfkaa
namespace Go.Proofs.Ytgjbkdnbaphfkaa
open Go.RowKit
set_option linter.unusedVariables false
set_option linter.unusedSimpArgs false
end Go.Proofs.Ytgjbkdnbaphfkaa
namespace Go.Proofs.Ytgjbkdnbaphfkaa
open Go.RowKit
set_option linter.unusedVariables false
set_option linter.unusedSimpArgs false
end Go.Proofs.Ytgjbkdnbaphfkaa
namespace Go.Proofs.Ytgjbkdnbaphfkaa
open Go.RowKit
set_option linter.unusedVariables false
set_option linter.unusedSimpArgs false
end Go.Proofs.Ytgjbkdnbaphfkaa
namespace Go.Proofs.Ytgjbkdnbaphfkaa
open Go.RowKit
set_option linter.unusedVariables false
set_option linter.unusedSimpArgs false
end Go.Proofs.Ytgjbkdnbaphfkaa
namespace Go.Proofs.Ytgjbkdnbaphfkaa
open Go.RowKit
set_option linter.unusedVariables false
set_option linter.unusedSimpArgs false
def addNF (u lo : Int) (l : List R2) (m : Int) : Int × Int × List R2 := if addNok u lo l m = true then (u, lo, rodsD (addNst l m).ds) else (0, 0, [])
/-- two factors -/
def facB (a b : Int) : Bool := inB a 0 9999 && inB b 0 9999
def prodOk (u lo : Int) (l : List R2) (a b : Int) : Bool := facB a b && addNok u lo l (a * b)
def prodF (u lo : Int) (l : List R2) (a b : Int) : Int × Int × List R2 := if facB a b = true then addNF u lo l (a * b) else (0, 0, [])
end Go.Proofs.Ytgjbkdnbaphfkaa
namespace Go.Proofs.Ytgjbkdnbaphfkaa
open Go.RowKit
set_option linter.unusedVariables false
set_option linter.unusedSimpArgs false
def addDF (u lo : Int) (l : List R2) (rod d : Int) : Int × Int × List R2 := if addDigitB u lo l rod d = true then (u, lo, rodsD (addS (rod.toNat + 1) d ⟨dsOf l, [], 0⟩).ds) else (0, 0, [])
def takeDF (u lo : Int) (l : List R2) (rod d : Int) : Int × Int × List R2 := if takeDigitB u lo l rod d = true then (u, lo, rodsD (takeS (rod.toNat + 1) d ⟨dsOf l, [], 0⟩).ds) else (0, 0, [])
end Go.Proofs.Ytgjbkdnbaphfkaa
namespace Go.Proofs.Ytgjbkdnbaphfkaa
open Go.RowKit
set_option linter.unusedVariables false
set_option linter.unusedSimpArgs false
def takeNF (u lo : Int) (l : List R2) (m : Int) : Int × Int × List R2 := if takeNok u lo l m = true then (u, lo, rodsD (takeNst l m).ds) else (0, 0, [])
end Go.Proofs.Ytgjbkdnbaphfkaa
namespace Go.Proofs.Ytgjbkdnbaphfkaa
open Go.RowKit
set_option linter.unusedVariables false
set_option linter.unusedSimpArgs false
end Go.Proofs.Ytgjbkdnbaphfkaa
namespace Go.Proofs.Ytgjbkdnbaphfkaa
open Go.RowKit
set_option linter.unusedVariables false
set_option linter.unusedSimpArgs false
theorem gr_allocF {w w2 : World} {o : Obj} {r : Option Nat} (h : (w.alloc o).grownBy w2 r) : w.grownBy w2 r :=
 have hb := ext_alloc (ext_refl w) o
 ⟨h.os.trans hb.os, h.tape.trans hb.tape, h.output.trans hb.output, Nat.le_trans hb.size h.size, fun i hi hne => (h.block i (Nat.lt_of_lt_of_le hi hb.size) hne).trans (hb.block i hi)⟩
/-- a frame of its own comes back -/
def OwnFrm (u lo : Int) (n : Nat) (l : List R2) (w : World) (e : Ending) (w' : World) : Prop :=
 ∃ A' c', e = .returned (frV u lo A' n c') ∧ w'.ownsRow w.heap.size 41 2 (.slice A' n c') n (rowsV2 l) ∧ Below w.heap.size w w'
end Go.Proofs.Ytgjbkdnbaphfkaa
namespace Go.Proofs.Ytgjbkdnbaphfkaa
open Go.RowKit
set_option linter.unusedVariables false
set_option linter.unusedSimpArgs false
theorem addDms_len (u lo : Int) (l : List R2) (rod d : Int) : (addDms u lo l rod d).length ≤ 16 := by
 unfold addDms
 split
 · rename_i h
   unfold addDigitB at h
   simp only [Bool.and_eq_true] at h
   have hn := (frB_head (good_fr h.1.1.1)).2.2.2
   have hr := inB_iff.1 h.1.1.2
   have := addS_msl (rod.toNat + 1) d ⟨dsOf l, [], 0⟩
   simp at this
   omega
 · simp
theorem takeDms_len (u lo : Int) (l : List R2) (rod d : Int) : (takeDms u lo l rod d).length ≤ 16 := by
 unfold takeDms
 split
 · rename_i h
   unfold takeDigitB at h
   simp only [Bool.and_eq_true] at h
   have hn := (frB_head (good_fr h.1.1.1)).2.2.2
   have hr := inB_iff.1 h.1.1.2
   have := takeS_msl (rod.toNat + 1) d ⟨dsOf l, [], 0⟩
   simp at this
   omega
 · simp
theorem addNms_len (u lo : Int) (l : List R2) (m : Int) : (addNms u lo l m).length ≤ 60 := by
 unfold addNms
 split
 · rename_i h
   unfold addNmok at h
   simp only [Bool.and_eq_true, decide_eq_true_eq] at h
   exact h.2
 · simp
theorem takeNms_len (u lo : Int) (l : List R2) (m : Int) : (takeNms u lo l m).length ≤ 60 := by
 unfold takeNms
 split
 · rename_i h
   unfold takeNmok at h
   simp only [Bool.and_eq_true, decide_eq_true_eq] at h
   exact h.2
 · simp
end Go.Proofs.Ytgjbkdnbaphfkaa
namespace Go.Proofs.Ytgjbkdnbaphfkaa
open Go.RowKit
set_option linter.unusedVariables false
set_option linter.unusedSimpArgs false
theorem addNF_len (u lo : Int) (l : List R2) (m : Int) : (addNF u lo l m).2.2.length ≤ 8 := by
 unfold addNF
 split
 · rename_i h
   unfold addNok at h
   simp only [Bool.and_eq_true] at h
   have hn := (frB_head (good_fr h.1)).2.2.2
   show (rodsD _).length ≤ 8
   rw [rodsD_len, addNst, addN_len]
   show (dsOf l).length ≤ 8
   rw [dsOf_len]
   exact hn
 · exact Nat.zero_le _
theorem prodF_len (u lo : Int) (l : List R2) (a b : Int) : (prodF u lo l a b).2.2.length ≤ 8 := by
 unfold prodF
 split
 · exact addNF_len _ _ _ _
 · exact Nat.zero_le _
end Go.Proofs.Ytgjbkdnbaphfkaa
namespace Go.Proofs.Ytgjbkdnbaphfkaa
open Go.RowKit
set_option linter.unusedVariables false
set_option linter.unusedSimpArgs false
theorem rep_not {s : ByteArray} {hp : 0 < s.size} (h1 : 50 ≤ (s[0]'hp).toNat) (h2 : (s[0]'hp).toNat ≤ 57) : plainO (bl s) = none := by
 rcases (show s.size = 1 ∨ s.size = 2 ∨ 3 ≤ s.size by omega) with h | h | h
 · rw [plain_one h hp, if_neg]
   rw [c60, c62, c99]
   omega
 · rw [plain_two h hp (by omega), if_neg]
   rw [c43, c45]
   omega
 · exact plain_more h
/-- how often, and the plain word -/
def plainOf (l : List UInt8) : List UInt8 := match l with | c :: d :: rest => if repB c = true then d :: rest else l | _ => l
end Go.Proofs.Ytgjbkdnbaphfkaa
namespace Go.Proofs.Ytgjbkdnbaphfkaa
open Go.RowKit
set_option linter.unusedVariables false
set_option linter.unusedSimpArgs false
/-- the first k texts, put together with another between them -/
def jnTo (sep : ByteArray) (ps : List ByteArray) (k : Nat) : ByteArray := match ps.take k with | [] => ⟨#[]⟩ | p :: r => r.foldl (fun a q => (a ++ sep) ++ q) p
theorem jnTo_zero (sep : ByteArray) (ps : List ByteArray) : jnTo sep ps 0 = ⟨#[]⟩ := by simp [jnTo]
theorem jnTo_one {sep : ByteArray} {ps : List ByteArray} {p : ByteArray} (h : ps[0]? = some p) : jnTo sep ps 1 = p := by
 unfold jnTo
 rw [List.take_add_one, h]; rfl
theorem jnTo_succ {sep : ByteArray} {ps : List ByteArray} {k : Nat} {p : ByteArray} (h : ps[k]? = some p) (hk : 0 < k) : jnTo sep ps (k + 1) = (jnTo sep ps k ++ sep) ++ p := by
 have hkl := (List.getElem?_eq_some_iff.1 h).1
 unfold jnTo
 rw [List.take_add_one, h]
 cases ps with
 | nil => simp at hkl
 | cons q ps =>
   obtain ⟨j, rfl⟩ : ∃ j, k = j + 1 := ⟨k - 1, by omega⟩
   simp [List.take_succ_cons, List.foldl_append]
theorem jnTo_size {sep : ByteArray} {ps : List ByteArray} (hs : sep.size ≤ 100) (hp : ∀ p ∈ ps, p.size ≤ 100) : ∀ k, k ≤ ps.length → (jnTo sep ps k).size ≤ k * 200 := by
 intro k
 induction k with
 | zero => intro _; rw [jnTo_zero]; exact Nat.zero_le _
 | succ k ih =>
   intro hk
   obtain ⟨p, hp2⟩ := list_split (l := ps) (k := k) (by omega)
   have h1 := hp p (List.mem_of_getElem? hp2)
   rcases Nat.eq_zero_or_pos k with h0 | h0
   · subst h0; rw [jnTo_one hp2]; omega
   · rw [jnTo_succ hp2 h0, ByteArray.size_append, ByteArray.size_append]
     have := ih (by omega)
     omega
def txsV (ps : List ByteArray) : List Value := ps.map Value.string
theorem txs_len {w : World} {B n : Nat} {A : Option Addr} {ps : List ByteArray} (h : Reads w B 1 A n (txsV ps)) : ps.length = n := by have := h.1; simp [txsV] at this; omega
theorem txs_at {w : World} {B n : Nat} {A : Option Addr} {ps : List ByteArray} (h : Reads w B 1 A n (txsV ps)) {k : Nat} {p : ByteArray} (hp : ps[k]? = some p) :
 ∃ b o, A = some ⟨b, o, none⟩ ∧ b < B ∧ w.cell? ⟨b, o + k, none⟩ = some (.string p) := by
 have hk := (List.getElem?_eq_some_iff.1 hp).1
 have hl := txs_len h
 obtain ⟨b, o, hA, hb, hc⟩ := h.2 (by omega)
 exact ⟨b, o, hA, hb, hc k _ (by simp [txsV, hp])⟩
end Go.Proofs.Ytgjbkdnbaphfkaa
namespace Go.Proofs.Ytgjbkdnbaphfkaa
open Go.RowKit
set_option linter.unusedVariables false
set_option linter.unusedSimpArgs false
theorem KeepP.refl (w : World) : KeepP w w := ⟨Nat.le_refl _, fun _ _ _ h _ _ _ _ => h⟩
theorem KeepP.trans {w w1 w2 : World} (h : KeepP w w1) (k : KeepP w1 w2) : KeepP w w2 := ⟨Nat.le_trans h.1 k.1, fun b t cs hb h1 h2 h3 h4 => k.2 b t cs (h.2 b t cs hb h1 h2 h3 h4) h1 h2 h3 h4⟩
theorem KeepP.of_ext {w w' : World} (h : Below w.heap.size w w') : KeepP w w' := ⟨h.size, fun _ _ _ hb _ _ _ _ => hb.ext h⟩
theorem KeepP.of_T {w w' : World} (h : KeepT w w') : KeepP w w' := ⟨h.1, fun b t cs hb h1 h2 h3 _ => h.2 b t cs hb h1 h2 h3⟩
abbrev plV (g : Nat) (r : Nat) : Array Value := #[.pointer (some ⟨g, 0, none⟩), .int .i64 (r : Int)]
theorem rodsD_good {u lo : Int} {ds : List Int} {n : Nat} (hu : 1 ≤ u ∧ u ≤ 2) (hlo : 4 ≤ lo ∧ lo ≤ 5) (hw : WF ds) (hn : ds.length = n) (h1 : 1 ≤ n) (h8 : n ≤ 8) : frB u lo (rodsD ds) = true := by
 simp only [frB, headB, Bool.and_eq_true, inB_iff, List.all_eq_true, rodsD_len]
 refine ⟨⟨⟨hu, hlo⟩, by omega⟩, ?_⟩
 intro r hr
 unfold rodsD at hr
 rw [List.mem_map] at hr
 obtain ⟨d, hd, rfl⟩ := hr
 have := hw d hd
 simp only [rodB, rodD, Bool.and_eq_true, inB_iff]
 omega
end Go.Proofs.Ytgjbkdnbaphfkaa
namespace Go.Proofs.Ytgjbkdnbaphfkaa
open Go.RowKit
set_option linter.unusedVariables false
set_option linter.unusedSimpArgs false
theorem Bd.ms {n m : Nat} {p : WS × Nat} (h : Bd n m p) (hn : n ≤ 8) (hm : m ≤ 1000) : p.1.ms.length ≤ 128000 ∧ 0 ≤ p.1.ask ∧ p.1.ask ≤ 8000 := by
 obtain ⟨_, h2, h3, h4⟩ := h
 have e1 : 16 * n * m ≤ 16 * 8 * 1000 := Nat.mul_le_mul (by omega) hm
 have e2 : n * m ≤ 8 * 1000 := Nat.mul_le_mul hn hm
 have h4' : p.1.ask ≤ ((n * m : Nat) : Int) := by push_cast; exact h4
 exact ⟨by omega, h3, by omega⟩
theorem Bd.it {n m : Nat} {x : RW} {p : WS × Nat} (hx : okW x) (hb : Bd n m p) : ∀ (k : Nat) (q : WS × Nat), itO n x k p = some q → Bd n (m + k) q := by
 intro k
 induction k with
 | zero => intro q h; injection h with h; subst h; exact hb
 | succ k ih =>
   intro q h
   rw [itO] at h
   rcases hq : itO n x k p with _ | z
   · rw [hq] at h; cases h
   · rw [hq] at h
     exact (ih z hq).step hx h
theorem Bd.more {n m m' : Nat} {p : WS × Nat} (h : Bd n m p) (hm : m ≤ m') : Bd n m' p := by
 obtain ⟨h1, h2, h3, h4⟩ := h
 have e1 : 16 * n * m ≤ 16 * n * m' := Nat.mul_le_mul_left _ hm
 have e2 : n * m ≤ n * m' := Nat.mul_le_mul_left _ hm
 refine ⟨h1, by omega, h3, ?_⟩
 have h4' : p.1.ask ≤ ((n * m : Nat) : Int) := by push_cast; exact h4
 have : p.1.ask ≤ ((n * m' : Nat) : Int) := by omega
 push_cast at this
 exact this
/-- a script on a frame: what comes back -/
def st0 (l : List R2) : WS × Nat := (⟨dsOf l, [], 0⟩, l.length - 1)
def runB (u lo : Int) (l : List R2) (s : ByteArray) : Bool := scrB s && goodB u lo l
def runQ (l : List R2) (s : ByteArray) : Option (WS × Nat) := runO l.length (rulesL s) (st0 l)
def runD (l : List R2) (s : ByteArray) : Nat := doneN l.length (rulesL s) (st0 l)
theorem okW_rules {s : ByteArray} (h : scrB s = true) {k : Nat} {x : RW} (hx : (rulesL s)[k]? = some x) : okW x := by
 unfold rulesL at hx
 rw [List.getElem?_map] at hx
 rcases hl : (wordsL s)[k]? with _ | y
 · rw [hl] at hx; cases hx
 · rw [hl] at hx
   injection hx with hx
   subst hx
   unfold scrB at h
   simp only [Bool.and_eq_true, List.all_eq_true] at h
   have := h.2 y (List.mem_of_getElem? hl)
   rcases hw : wordO y with _ | z
   · rw [hw] at this; cases this
   · unfold wd
     rw [hw]
     exact wordO_ok hw
theorem st0_Bd {u lo : Int} {l : List R2} (h : goodB u lo l = true) : Bd l.length 0 (st0 l) := by
 have hf := good_fr h
 have hn := (frB_head hf).2.2
 refine ⟨⟨dsOf_WF hf (good_std h), dsOf_len l, by show l.length - 1 < l.length; omega⟩, by simp [st0], by simp [st0], by simp [st0]⟩
end Go.Proofs.Ytgjbkdnbaphfkaa
namespace Go.Proofs.Ytgjbkdnbaphfkaa
open Go.RowKit
set_option linter.unusedVariables false
set_option linter.unusedSimpArgs false
theorem stO_fresh (n : Nat) (x : RW) (s : WS) (r : Nat) : stO n x (s, r) = (stO n x (⟨s.ds, [], 0⟩, r)).map fun q => (⟨q.1.ds, s.ms ++ q.1.ms, s.ask + q.1.ask⟩, q.2) := by
 unfold stO
 dsimp only
 split
 · split <;> simp
 split
 · split <;> simp
 split
 · simp
 split
 · split
   · rw [addS_pile0 (r + 1) x.digit s]; rfl
   · rfl
 · split
   · rw [takeS_pile0 (r + 1) x.digit s]; rfl
   · rfl
end Go.Proofs.Ytgjbkdnbaphfkaa
namespace Go.Proofs.Ytgjbkdnbaphfkaa
open Go.RowKit
set_option linter.unusedVariables false
set_option linter.unusedSimpArgs false
theorem plain_inv {l : List UInt8} {c : UInt8} {d : Nat} (h : plainO l = some (c, d)) : ((c = 60 ∨ c = 62 ∨ c = 99) ∧ d = 0 ∧ l = [c]) ∨ ((c = 43 ∨ c = 45) ∧ ∃ e : UInt8, l = [c, e] ∧ 49 ≤ e.toNat ∧ e.toNat ≤ 57 ∧ d = e.toNat - 48) := by
 unfold plainO at h
 split at h
 · split at h
   · rename_i hc
     injection h with h
     injection h with h1 h2
     subst h1 h2
     exact .inl ⟨hc, rfl, rfl⟩
   · cases h
 · split at h
   · rename_i hc
     injection h with h
     injection h with h1 h2
     subst h1 h2
     have hd := hc.2
     simp only [digB, decide_eq_true_eq] at hd
     exact .inr ⟨hc.1, _, rfl, hd.1, hd.2, rfl⟩
   · cases h
 · cases h
theorem rodsD_std {ds : List Int} (h : WF ds) : stdB (rodsD ds) = true := by
 unfold stdB rodsD
 rw [List.all_eq_true]
 intro r hr
 rw [List.mem_map] at hr
 obtain ⟨d, hd, rfl⟩ := hr
 have := h d hd
 unfold stdR rodD
 simp only [Bool.and_eq_true, decide_eq_true_eq]
 omega
theorem hvR {p q : Prop} (h : p) (k : p → q) : q := k h
end Go.Proofs.Ytgjbkdnbaphfkaa
namespace Go.Proofs.Ytgjbkdnbaphfkaa
open Go.RowKit
set_option linter.unusedVariables false
set_option linter.unusedSimpArgs false
theorem Blk.drw {w : World} {g : Nat} {t : TypeId} {cs : Array Value} (h : Blk w g t cs) : Blk w.drew g t cs := h
end Go.Proofs.Ytgjbkdnbaphfkaa
namespace Go.Proofs.Ytgjbkdnbaphfkaa
open Go.RowKit
set_option linter.unusedVariables false
set_option linter.unusedSimpArgs false
def runOk (u lo : Int) (l : List R2) (s : ByteArray) : Bool := runB u lo l s && (runQ l s).isSome
def runW (l : List R2) (s : ByteArray) : WS := ((runQ l s).getD (⟨[], [], 0⟩, 0)).1
def runF (u lo : Int) (l : List R2) (s : ByteArray) : Int × Int × List R2 := if runOk u lo l s = true then (u, lo, rodsD (runW l s).ds) else (0, 0, [])
def cmpOk (u lo : Int) (l : List R2) (s : ByteArray) : Bool := runOk u lo l s && decide ((runW l s).ms.length ≤ 60)
def cmpMs (u lo : Int) (l : List R2) (s : ByteArray) : List R3 := if cmpOk u lo l s = true then (runW l s).ms else []
def ffV (u lo : Int) (l : List R2) (s : ByteArray) : Int := if runB u lo l s = true then (runD l s : Int) else 0
theorem rules_less {l : List R2} {s : ByteArray} (h : runQ l s = none) : runD l s < (rulesL s).length := done_less h
theorem rules_all {l : List R2} {s : ByteArray} {q : WS × Nat} (h : runQ l s = some q) : runD l s = (rulesL s).length := done_all h
theorem rules_81 {u lo : Int} {l : List R2} {s : ByteArray} (h : runB u lo l s = true) : (rulesL s).length ≤ 81 := by
 rw [rulesL_len]
 have := wordsL_len s
 unfold runB scrB at h
 simp only [Bool.and_eq_true, decide_eq_true_eq] at h
 omega
theorem runD_le (l : List R2) (s : ByteArray) : runD l s ≤ (rulesL s).length := doneN_le _ _ _
theorem runW_some {l : List R2} {s : ByteArray} {q : WS × Nat} (h : runQ l s = some q) : runW l s = q.1 := by unfold runW; rw [h]; rfl
theorem runQ_len {u lo : Int} {l : List R2} {s : ByteArray} {q : WS × Nat} (hb : runB u lo l s = true) (h : runQ l s = some q) : q.1.ds.length = l.length ∧ q.1.ms.length ≤ 128000 := by
 have h81 := rules_81 hb
 unfold runB at hb
 simp only [Bool.and_eq_true] at hb
 have hn := (frB_head (good_fr hb.2)).2.2.2
 have key : ∀ (k : Nat) (z : WS × Nat), k ≤ (rulesL s).length → runO l.length ((rulesL s).take k) (st0 l) = some z → Bd l.length (9 * k) z := by
  intro k
  induction k with
  | zero => intro z _ hz; simp [runO] at hz; subst hz; exact st0_Bd hb.2
  | succ k ih =>
    intro z hk hz
    obtain ⟨x, hx⟩ := list_split (l := rulesL s) (k := k) (by omega)
    rcases hy : runO l.length ((rulesL s).take k) (st0 l) with _ | y
    · unfold runO at hy hz
      rw [List.take_add_one, hx, List.foldl_append, hy] at hz
      simp at hz
    · rw [runO_take hy hx] at hz
      have hxo := okW_rules hb.1 hx
      exact ((ih y (by omega) hy).it hxo _ _ hz).more (by have := hxo.1.2; omega)
 have hbd := key (rulesL s).length q (Nat.le_refl _) (by rw [List.take_of_length_le (Nat.le_refl _)]; exact h)
 exact ⟨hbd.1.2.1, (hbd.ms hn (by omega)).1⟩
end Go.Proofs.Ytgjbkdnbaphfkaa
namespace Go.Proofs.Ytgjbkdnbaphfkaa
open Go.RowKit
set_option linter.unusedVariables false
set_option linter.unusedSimpArgs false
/-- words with blanks between them -/
def jnL : List (List UInt8) → List UInt8
 | [] => []
 | [w] => w
 | w :: v :: ws => w ++ 32 :: jnL (v :: ws)
theorem splitL_app {b : UInt8} {w : List UInt8} (h : b ∉ w) (l : List UInt8) : splitL b (w ++ b :: l) = w :: splitL b l := by
 induction w with
 | nil => exact splitL_hit b l
 | cons c w ih =>
   have hc : c ≠ b := fun e => h (by rw [e]; exact List.mem_cons_self ..)
   rw [List.cons_append, splitL_miss hc, ih (fun e => h (List.mem_cons_of_mem _ e))]
   rfl
theorem splitL_none {b : UInt8} {w : List UInt8} (h : b ∉ w) : splitL b w = [w] := by
 have h1 := (splitL_one b w).2 h
 have h0 := splitL_head b w
 have ht : w.takeWhile (· != b) = w := by
  clear h1 h0
  induction w with
  | nil => rfl
  | cons c w ih =>
    have hc : c ≠ b := fun e => h (by rw [e]; exact List.mem_cons_self ..)
    rw [List.takeWhile_cons, if_pos (by simpa using hc), ih (fun e => h (List.mem_cons_of_mem _ e))]
 rw [ht] at h0
 match hs : splitL b w, h1, h0 with
 | [x], _, h0 => simp at h0; rw [h0]
theorem split_jnL : ∀ ws : List (List UInt8), ws ≠ [] → (∀ w ∈ ws, (32 : UInt8) ∉ w) → splitL 32 (jnL ws) = ws := by
 intro ws
 induction ws with
 | nil => intro h; exact absurd rfl h
 | cons w ws ih =>
   intro _ h
   cases ws with
   | nil => exact splitL_none (h w (List.mem_cons_self ..))
   | cons v ws =>
     show splitL 32 (w ++ 32 :: jnL (v :: ws)) = _
     rw [splitL_app (h w (List.mem_cons_self ..)), ih (by simp) (fun x hx => h x (List.mem_cons_of_mem _ hx))]
theorem jnL_snoc : ∀ (ws : List (List UInt8)) (w : List UInt8), ws ≠ [] → jnL (ws ++ [w]) = jnL ws ++ 32 :: w := by
 intro ws
 induction ws with
 | nil => intro w h; exact absurd rfl h
 | cons x ws ih =>
   intro w _
   cases ws with
   | nil => rfl
   | cons v ws =>
     show x ++ 32 :: jnL ((v :: ws) ++ [w]) = (x ++ 32 :: jnL (v :: ws)) ++ 32 :: w
     rw [ih w (by simp)]
     simp
theorem bl_jnTo (ps : List ByteArray) : ∀ k, k ≤ ps.length → bl (jnTo ⟨#[32]⟩ ps k) = jnL ((ps.take k).map bl) := by
 intro k
 induction k with
 | zero => intro _; rw [jnTo_zero]; rfl
 | succ k ih =>
   intro hk
   obtain ⟨p, hp⟩ := list_split (l := ps) (k := k) (by omega)
   rcases Nat.eq_zero_or_pos k with h0 | h0
   · subst h0
     rw [jnTo_one hp, List.take_add_one, hp]
     rfl
   · rw [jnTo_succ hp h0, bl_append, bl_append, ih (by omega), List.take_add_one, hp]
     simp only [Option.toList, List.map_append, List.map_cons, List.map_nil]
     rw [jnL_snoc _ _ (by
      intro e
      have := congrArg List.length e
      rw [List.length_map, List.length_take, List.length_nil] at this
      omega)]
     show (_ ++ [32]) ++ bl p = _
     simp
/-- the words that add m, from the right; f: as many digits at most -/
def sfF : Nat → Nat → List (List UInt8)
 | 0, _ => []
 | f + 1, m => if m = 0 then [] else ((if m % 10 > 0 then [[43, dig (m % 10)]] else []) ++ (if m ≥ 10 then [[60]] else [])) ++ sfF f (m / 10)
theorem sfF_zero (f : Nat) : sfF f 0 = [] := by cases f <;> simp [sfF]
theorem sfF_step {f m : Nat} (h : 0 < m) : sfF (f + 1) m = ((if m % 10 > 0 then [[43, dig (m % 10)]] else []) ++ (if m ≥ 10 then [[60]] else [])) ++ sfF f (m / 10) := by rw [sfF, if_neg (by omega)]
theorem dig_ne {d : Nat} (h : d < 10) : dig d ≠ 32 := by
 unfold dig
 intro e
 have := congrArg UInt8.toNat e
 rw [UInt8.toNat_ofNat'] at this
 have h2 : (32 : UInt8).toNat = 32 := rfl
 omega
theorem sfF_blank : ∀ f m, ∀ w ∈ sfF f m, (32 : UInt8) ∉ w := by
 intro f
 induction f with
 | zero => intro m w hw; cases hw
 | succ f ih =>
   intro m w hw
   rw [sfF] at hw
   split at hw
   · cases hw
   · rcases List.mem_append.1 hw with hw | hw
     · rcases List.mem_append.1 hw with hw | hw
       · split at hw
         · simp only [List.mem_singleton] at hw
           subst hw
           have := dig_ne (d := m % 10) (by omega)
           simp only [List.mem_cons, List.not_mem_nil, or_false, not_or]
           exact ⟨by decide, fun e => this e.symm⟩
         · cases hw
       · split at hw
         · simp only [List.mem_singleton] at hw
           subst hw
           decide
         · cases hw
     · exact ih _ w hw
theorem sfF_len : ∀ f m, (sfF f m).length ≤ 2 * f := by
 intro f
 induction f with
 | zero => intro m; simp [sfF]
 | succ f ih =>
   intro m
   rw [sfF]
   have := ih (m / 10)
   split
   · simp
   · rw [List.length_append, List.length_append]
     split <;> split <;> simp <;> omega
def sfT (m : Nat) : ByteArray := str (jnL (sfF 8 m))
def spB (ws : List (List UInt8)) : List UInt8 := ws.flatMap fun w => w ++ [32]
theorem spB_app (a b : List (List UInt8)) : spB (a ++ b) = spB a ++ spB b := by simp [spB]
theorem spB_jnL : ∀ ws : List (List UInt8), ws ≠ [] → spB ws = jnL ws ++ [32] := by
 intro ws
 induction ws with
 | nil => intro h; exact absurd rfl h
 | cons w ws ih =>
   intro _
   cases ws with
   | nil => simp [spB, jnL]
   | cons v ws =>
     have := ih (by simp)
     show (w ++ [32]) ++ spB (v :: ws) = (w ++ 32 :: jnL (v :: ws)) ++ [32]
     rw [this]
     simp
def sfO (z : Int) : Option ByteArray := if inB z 0 99999999 = true then some (sfT z.toNat) else none
end Go.Proofs.Ytgjbkdnbaphfkaa
namespace Go.Proofs.Ytgjbkdnbaphfkaa
open Go.RowKit
set_option linter.unusedVariables false
set_option linter.unusedSimpArgs false
def wnL (ws : List RW) (k : Nat) : Nat := ((ws.take k).map RW.times).sum
theorem wnL_more {ws : List RW} {k : Nat} {x : RW} (h : ws[k]? = some x) : wnL ws (k + 1) = wnL ws k + x.times := by
 unfold wnL
 rw [List.take_add_one, h]
 simp
theorem wnL_le {ws : List RW} (hw : ∀ x ∈ ws, x.times ≤ 9) : ∀ k, k ≤ ws.length → wnL ws k ≤ 9 * k := by
 intro k
 induction k with
 | zero => intro _; simp [wnL]
 | succ k ih =>
   intro hk
   obtain ⟨x, hx⟩ := list_split (l := ws) (k := k) (by omega)
   rw [wnL_more hx]
   have := hw x (List.mem_of_getElem? hx)
   have := ih (by omega)
   omega
def wnV (s : ByteArray) : Int := if scrB s = true then (wnL (rulesL s) (rulesL s).length : Int) else 0
/-- the chosen rod after a word -/
def rodO (n : Int) (r : Int) (x : RW) : Option Int :=
 let r' := if x.what = 60 then r - x.times else if x.what = 62 then r + x.times else r
 if 0 ≤ r' ∧ r' ≤ n - 1 then some r' else none
def erL (n : Int) (ws : List RW) (k : Nat) : Option Int := (ws.take k).foldl (fun o x => o.bind fun r => rodO n r x) (some (n - 1))
theorem erL_more {n : Int} {ws : List RW} {k : Nat} {x : RW} {r : Int} (h : erL n ws k = some r) (hx : ws[k]? = some x) : erL n ws (k + 1) = rodO n r x := by
 unfold erL at *
 rw [List.take_add_one, hx]
 simp [List.foldl_append, h]
theorem erL_none {n : Int} {ws : List RW} {k : Nat} (h : erL n ws k = none) : erL n ws ws.length = none := by
 unfold erL at *
 rw [List.take_length]
 conv => lhs; rw [← List.take_append_drop k ws]
 rw [List.foldl_append, h]
 generalize ws.drop k = m
 induction m with
 | nil => rfl
 | cons x m ih => exact ih
theorem erL_in {n : Int} {ws : List RW} (hn : 1 ≤ n) : ∀ k {r : Int}, k ≤ ws.length → erL n ws k = some r → 0 ≤ r ∧ r ≤ n - 1 := by
 intro k
 induction k with
 | zero => intro r _ h; unfold erL at h; simp at h; omega
 | succ k ih =>
   intro r hk h
   obtain ⟨x, hx⟩ := list_split (l := ws) (k := k) (by omega)
   rcases hq : erL n ws k with _ | q
   · have := erL_none hq
     unfold erL at h hq
     rw [List.take_add_one, hx, List.foldl_append, hq] at h
     simp at h
   · rw [erL_more hq hx] at h
     unfold rodO at h
     dsimp only at h
     generalize (if x.what = 60 then q - (x.times : Int) else if x.what = 62 then q + (x.times : Int) else q) = r2 at h
     split at h
     · injection h with h; omega
     · cases h
def erV (s : ByteArray) (z : Int) : Option Int := if scrB s = true ∧ inB z 1 8 = true then erL z (rulesL s) (rulesL s).length else none
theorem rules_81' {s : ByteArray} (h : scrB s = true) : (rulesL s).length ≤ 81 := by
 rw [rulesL_len]
 have := wordsL_len s
 unfold scrB at h
 simp only [Bool.and_eq_true, decide_eq_true_eq] at h
 omega
theorem rules_okW {s : ByteArray} (h : scrB s = true) : ∀ w ∈ rulesL s, okW w := by
 intro w hw
 unfold rulesL at hw
 obtain ⟨l, hl, rfl⟩ := List.mem_map.1 hw
 unfold scrB at h
 simp only [Bool.and_eq_true, List.all_eq_true] at h
 have := h.2 l hl
 unfold wd
 rcases ho : wordO l with _ | x
 · rw [ho] at this; cases this
 · exact wordO_ok ho
/-- the word behind a rule -/
theorem rule_word {s : ByteArray} (h : scrB s = true) {k : Nat} {l : List UInt8} (hl : (wordsL s)[k]? = some l) : ∃ x, wordO l = some x ∧ (rulesL s)[k]? = some x := by
 unfold scrB at h
 simp only [Bool.and_eq_true, List.all_eq_true] at h
 have := h.2 l (List.mem_of_getElem? hl)
 rcases ho : wordO l with _ | x
 · rw [ho] at this; cases this
 · refine ⟨x, rfl, ?_⟩
   unfold rulesL
   rw [List.getElem?_map, hl]
   show some (wd l) = some x
   unfold wd
   rw [ho]; rfl
end Go.Proofs.Ytgjbkdnbaphfkaa
namespace Go.Proofs.Ytgjbkdnbaphfkaa
open Go.RowKit
set_option linter.unusedVariables false
set_option linter.unusedSimpArgs false
def turnC (c : UInt8) : UInt8 := if c = 43 then 45 else if c = 45 then 43 else if c = 60 then 62 else if c = 62 then 60 else c
def turnW (l : List UInt8) : List UInt8 := l.map turnC
theorem turnC_turnC (c : UInt8) : turnC (turnC c) = c := by
 unfold turnC
 by_cases h1 : c = 43
 · subst h1; decide
 by_cases h2 : c = 45
 · subst h2; decide
 by_cases h3 : c = 60
 · subst h3; decide
 by_cases h4 : c = 62
 · subst h4; decide
 rw [if_neg h1, if_neg h2, if_neg h3, if_neg h4, if_neg h1, if_neg h2, if_neg h3, if_neg h4]
theorem turnW_turnW (l : List UInt8) : turnW (turnW l) = l := by
 unfold turnW
 rw [List.map_map]
 conv => rhs; rw [← List.map_id l]
 exact List.map_congr_left fun c _ => turnC_turnC c
theorem turnC_eq {c d : UInt8} (h : turnC c = d) : c = turnC d := by rw [← h, turnC_turnC]
theorem turnC_other {c d : UInt8} (hd : turnC d = d) : turnC c = d ↔ c = d := ⟨fun h => by rw [turnC_eq h, hd], fun h => by rw [h, hd]⟩
/-- jnL undoes splitL -/
theorem jnL_glue (pre : List UInt8) {P : List (List UInt8)} (h : P ≠ []) : jnL (glue pre P) = pre ++ jnL P := by
 cases P with
 | nil => exact absurd rfl h
 | cons x P =>
   cases P with
   | nil => rfl
   | cons y P => show (pre ++ x) ++ 32 :: jnL (y :: P) = pre ++ (x ++ 32 :: jnL (y :: P)); simp
theorem jnL_cons (w : List UInt8) {P : List (List UInt8)} (h : P ≠ []) : jnL (w :: P) = w ++ 32 :: jnL P := by
 cases P with
 | nil => exact absurd rfl h
 | cons x P => rfl
theorem jnL_split : ∀ l : List UInt8, jnL (splitL 32 l) = l := by
 intro l
 induction l with
 | nil => rfl
 | cons c l ih =>
   by_cases h : c = 32
   · subst h
     rw [splitL_hit, jnL_cons _ (splitL_ne 32 l), ih]
     rfl
   · rw [splitL_miss h, jnL_glue _ (splitL_ne 32 l), ih]
     rfl
theorem splitL_free : ∀ l : List UInt8, ∀ w ∈ splitL 32 l, (32 : UInt8) ∉ w := by
 intro l
 induction l with
 | nil => intro w hw; simp [splitL] at hw; subst hw; simp
 | cons c l ih =>
   intro w hw
   by_cases h : c = 32
   · subst h
     rw [splitL_hit] at hw
     rcases List.mem_cons.1 hw with rfl | hw
     · simp
     · exact ih w hw
   · rw [splitL_miss h] at hw
     cases hs : splitL 32 l with
     | nil => exact absurd hs (splitL_ne 32 l)
     | cons x P =>
       rw [hs] at hw ih
       rcases List.mem_cons.1 hw with rfl | hw
       · have := ih x (List.mem_cons_self ..)
         intro e
         rcases List.mem_cons.1 e with e | e
         · exact h e.symm
         · exact this e
       · exact ih w (List.mem_cons_of_mem _ hw)
/-- the opposite words -/
def invW (s : ByteArray) : List (List UInt8) := (wordsL s).reverse.map turnW
def cFree (s : ByteArray) : Bool := (rulesL s).all fun x => decide (x.what ≠ 99)
def invO (s : ByteArray) : Option ByteArray := if scrB s = true ∧ cFree s = true then some (str (jnL (invW s))) else none
theorem words_free (s : ByteArray) : ∀ w ∈ wordsL s, (32 : UInt8) ∉ w := by
 intro w hw
 unfold wordsL at hw
 split at hw
 · cases hw
 · exact splitL_free _ w hw
theorem jnL_words (s : ByteArray) : jnL (wordsL s) = bl s := by
 unfold wordsL
 split
 · rename_i h
   rw [(List.length_eq_zero_iff (l := bl s)).1 (by rw [bl_size]; exact h)]; rfl
 · exact jnL_split _
theorem invW_free (s : ByteArray) : ∀ w ∈ invW s, (32 : UInt8) ∉ w := by
 intro w hw
 unfold invW at hw
 obtain ⟨v, hv, rfl⟩ := List.mem_map.1 hw
 have := words_free s v (List.mem_reverse.1 hv)
 intro e
 unfold turnW at e
 obtain ⟨c, hc, he⟩ := List.mem_map.1 e
 rw [turnC_other (by decide)] at he
 subst he
 exact this hc
def lenS (ws : List (List UInt8)) : Nat := (ws.map List.length).sum
theorem jnL_len : ∀ ws : List (List UInt8), (jnL ws).length = lenS ws + (ws.length - 1) := by
 intro ws
 induction ws with
 | nil => rfl
 | cons w ws ih =>
   cases ws with
   | nil => simp [jnL, lenS]
   | cons v ws =>
     show (w ++ 32 :: jnL (v :: ws)).length = _
     rw [List.length_append, List.length_cons, ih]
     simp [lenS]
     omega
theorem lenS_inv (ws : List (List UInt8)) : lenS (ws.reverse.map turnW) = lenS ws := by
 unfold lenS
 rw [List.map_map, show (List.length ∘ turnW) = (List.length : List UInt8 → Nat) from funext fun l => by simp [turnW]]
 rw [List.map_reverse, List.sum_reverse]
theorem digB_turn (c : UInt8) : digB (turnC c) = digB c := by
 unfold turnC
 by_cases h1 : c = 43
 · subst h1; decide
 by_cases h2 : c = 45
 · subst h2; decide
 by_cases h3 : c = 60
 · subst h3; decide
 by_cases h4 : c = 62
 · subst h4; decide
 rw [if_neg h1, if_neg h2, if_neg h3, if_neg h4]
theorem turn_dig {c : UInt8} (h : 48 ≤ c.toNat ∧ c.toNat ≤ 57) : turnC c = c := by
 unfold turnC
 rw [if_neg (by rintro rfl; exact absurd h.1 (by decide)), if_neg (by rintro rfl; exact absurd h.1 (by decide)), if_neg (by rintro rfl; exact absurd h.2 (by decide)), if_neg (by rintro rfl; exact absurd h.2 (by decide))]
/-- what the opposite of a plain word tells -/
theorem plain_turn {l : List UInt8} {c : UInt8} {d : Nat} (h : plainO l = some (c, d)) : plainO (turnW l) = some (turnC c, d) := by
 unfold plainO at h
 split at h
 · rename_i x
   split at h
   · rename_i hx
     injection h with h
     injection h with h1 h2
     subst h1 h2
     show plainO [turnC x] = _
     unfold plainO
     dsimp only
     rw [if_pos]
     rcases hx with rfl | rfl | rfl
     · exact .inr (.inl (by decide))
     · exact .inl (by decide)
     · exact .inr (.inr (by decide))
   · cases h
 · rename_i x y
   split at h
   · rename_i hx
     injection h with h
     injection h with h1 h2
     subst h1 h2
     have hy := hx.2
     unfold digB at hy
     simp only [decide_eq_true_eq] at hy
     have hty : turnC y = y := turn_dig ⟨by omega, by omega⟩
     show plainO [turnC x, turnC y] = _
     rw [hty]
     unfold plainO
     dsimp only
     rw [if_pos]
     refine ⟨?_, hx.2⟩
     rcases hx.1 with rfl | rfl
     · exact .inr (by decide)
     · exact .inl (by decide)
   · cases h
 · cases h
theorem word_turn {l : List UInt8} {x : RW} (h : wordO l = some x) : wordO (turnW l) = some ⟨x.times, turnC x.what, x.digit⟩ := by
 unfold wordO at h
 split at h
 · cases h
 · rename_i c rest
   show wordO (turnC c :: turnW rest) = _
   split at h
   · rename_i hc
     have hr := hc.1
     unfold repB at hr
     simp only [decide_eq_true_eq] at hr
     have htc : turnC c = c := turn_dig ⟨by omega, by omega⟩
     rcases hp : plainO rest with _ | ⟨a, b⟩
     · rw [hp] at h; cases h
     rw [hp] at h
     injection h with h
     subst h
     rw [htc]
     unfold wordO
     dsimp only
     rw [if_pos ⟨hc.1, by
      intro e
      have := congrArg turnW e
      rw [turnW_turnW] at this
      exact hc.2 this⟩, plain_turn hp]
     rfl
   · rename_i hc
     rcases hp : plainO (c :: rest) with _ | ⟨a, b⟩
     · rw [hp] at h; cases h
     rw [hp] at h
     injection h with h
     subst h
     unfold wordO
     dsimp only
     rw [if_neg (by
      rintro ⟨h1, h2⟩
      unfold repB at h1
      simp only [decide_eq_true_eq] at h1
      have htc : turnC (turnC c) = turnC c := turn_dig ⟨by omega, by omega⟩
      rw [turnC_turnC] at htc
      refine hc ⟨?_, fun e => h2 (by rw [e]; rfl)⟩
      unfold repB
      rw [htc]
      simpa using h1), show turnC c :: turnW rest = turnW (c :: rest) from rfl, plain_turn hp]
     rfl
theorem rules_map (s : ByteArray) : rulesL s = (wordsL s).map wd := rfl
/-- the opposite of a script: its words, its rules -/
theorem inv_facts {s : ByteArray} (h : scrB s = true) : wordsL (str (jnL (invW s))) = invW s ∧ scrB (str (jnL (invW s))) = true ∧ rulesL (str (jnL (invW s))) = (rulesL s).reverse.map fun x => ⟨x.times, turnC x.what, x.digit⟩ := by
 have h0 := h
 unfold scrB at h
 simp only [Bool.and_eq_true, decide_eq_true_eq, List.all_eq_true] at h
 obtain ⟨hs, hall⟩ := h
 have hword : ∀ w ∈ wordsL s, ∃ x, wordO w = some x := fun w hw => Option.isSome_iff_exists.1 (hall w hw)
 have hw : wordsL (str (jnL (invW s))) = invW s := by
  unfold wordsL
  by_cases he : invW s = []
  · rw [he]; rfl
  · rw [if_neg, bl_str, split_jnL _ he (invW_free s)]
    intro h1
    rw [← bl_size, bl_str] at h1
    have h1 := List.eq_nil_of_length_eq_zero h1
    have h2 := split_jnL _ he (invW_free s)
    rw [h1] at h2
    have h3 : ([] : List UInt8) ∈ invW s := by rw [← h2]; simp [splitL]
    unfold invW at h3
    obtain ⟨v, hv, h4⟩ := List.mem_map.1 h3
    have : v = [] := by
     have := congrArg turnW h4
     rw [turnW_turnW] at this
     exact this
    subst this
    obtain ⟨x, hx⟩ := hword [] (List.mem_reverse.1 hv)
    simp [wordO] at hx
 refine ⟨hw, ?_, ?_⟩
 · unfold scrB
   rw [hw]
   simp only [Bool.and_eq_true, decide_eq_true_eq, List.all_eq_true]
   refine ⟨?_, ?_⟩
   · rw [← bl_size, bl_str, jnL_len]
     have h1 := jnL_len (wordsL s)
     rw [jnL_words, bl_size] at h1
     unfold invW
     rw [lenS_inv]
     simp only [List.length_map, List.length_reverse]
     omega
   · intro w hw2
     unfold invW at hw2
     obtain ⟨v, hv, rfl⟩ := List.mem_map.1 hw2
     obtain ⟨x, hx⟩ := hword v (List.mem_reverse.1 hv)
     rw [word_turn hx]; rfl
 · rw [rules_map, hw, rules_map]
   unfold invW
   rw [List.map_map, ← List.map_reverse, List.map_map]
   refine List.map_congr_left fun v hv => ?_
   obtain ⟨x, hx⟩ := hword v (List.mem_reverse.1 hv)
   show wd (turnW v) = _
   unfold wd
   rw [word_turn hx]
   show _ = (fun x : RW => (⟨x.times, turnC x.what, x.digit⟩ : RW)) ((wordO v).getD ⟨1, 99, 0⟩)
   rw [hx]; rfl
/-- the inverse of an inverse is the script -/
theorem inv_inv {s t : ByteArray} (h : invO s = some t) : invO t = some s ∧ wnV t = wnV s ∧ scrB s = true ∧ scrB t = true := by
 unfold invO at h
 split at h
 · rename_i hh
   obtain ⟨h1, h2⟩ := hh
   injection h with h
   subst h
   obtain ⟨e1, e2, e3⟩ := inv_facts h1
   refine ⟨?_, ?_, h1, e2⟩
   · have hc : cFree (str (jnL (invW s))) = true := by
      unfold cFree at *
      rw [e3]
      simp only [List.all_eq_true, decide_eq_true_eq] at *
      intro x hx
      obtain ⟨y, hy, rfl⟩ := List.mem_map.1 hx
      have := h2 y (List.mem_reverse.1 hy)
      show turnC y.what ≠ 99
      intro e
      exact this ((turnC_other (by decide)).1 e)
     unfold invO
     rw [if_pos ⟨e2, hc⟩]
     · congr 1
       have : invW (str (jnL (invW s))) = wordsL s := by
        unfold invW at *
        rw [e1, ← List.map_reverse, List.reverse_reverse, List.map_map]
        conv => rhs; rw [← List.map_id (wordsL s)]
        exact List.map_congr_left fun l _ => turnW_turnW l
       rw [this, jnL_words, str_bl]
   · unfold wnV
     rw [if_pos h1, if_pos e2, e3]
     unfold wnL
     rw [List.take_length, List.take_length, List.map_map]
     congr 1
     show (((rulesL s).reverse.map RW.times)).sum = _
     rw [List.map_reverse, List.sum_reverse]
 · cases h
end Go.Proofs.Ytgjbkdnbaphfkaa
namespace Go.Proofs.Ytgjbkdnbaphfkaa
open Go.RowKit
set_option linter.unusedVariables false
set_option linter.unusedSimpArgs false
/-- the first k bytes turned -/
def mixT (l : List UInt8) (k : Nat) : List UInt8 := turnW (l.take k) ++ l.drop k
theorem mixT_zero (l : List UInt8) : mixT l 0 = l := by simp [mixT, turnW]
theorem mixT_all (l : List UInt8) : mixT l l.length = turnW l := by simp [mixT]
theorem mixT_getD (l : List UInt8) (k : Nat) : (mixT l k).getD k 0 = l.getD k 0 := by
 unfold mixT turnW
 rw [List.getD_eq_getElem?_getD, List.getD_eq_getElem?_getD]
 rcases Nat.lt_or_ge k l.length with h | h
 · rw [List.getElem?_append_right (by simp; omega)]
   simp only [List.length_map, List.length_take, List.getElem?_drop]
   congr 2
   omega
 · rw [List.getElem?_eq_none (by simp; omega), List.getElem?_eq_none h]
theorem mixT_set {l : List UInt8} {k : Nat} {x : UInt8} (h : k < l.length) (hx : l.getD k 0 = x) : (mixT l k).set k (turnC x) = mixT l (k + 1) := by
 have hg : l[k]? = some x := by
  rw [List.getElem?_eq_getElem h]
  rw [List.getD_eq_getElem?_getD, List.getElem?_eq_getElem h] at hx
  simpa using hx
 unfold mixT turnW
 rw [List.set_append_right _ _ (by simp; omega), List.take_add_one, hg]
 simp only [List.length_map, List.length_take, Option.toList, List.map_append, List.map_cons, List.map_nil, List.append_assoc]
 congr 1
 rw [show k - min k l.length = 0 by omega]
 rw [List.drop_eq_getElem_cons h]
 rw [List.getElem?_eq_getElem h] at hg
 rw [List.set_cons_zero]
 rfl
theorem set_getD {l : List UInt8} {k : Nat} {x : UInt8} (h : l.getD k 0 = x) : l.set k x = l := by
 refine List.ext_getElem? fun i => ?_
 by_cases e : i = k
 · subst e
   rcases Nat.lt_or_ge i l.length with hl | hl
   · rw [List.getElem?_set_self hl]
     rw [List.getD_eq_getElem?_getD, List.getElem?_eq_getElem hl] at h
     rw [List.getElem?_eq_getElem hl]
     simpa using h.symm
   · rw [List.getElem?_eq_none (by simp; omega), List.getElem?_eq_none hl]
 · rw [List.getElem?_set_ne (fun e2 => e e2.symm)]
theorem bl_getD {s : ByteArray} {k : Nat} (h : k < s.size) : (bl s).getD k 0 = s[k]'h := by
 unfold bl
 rw [List.getD_eq_getElem?_getD, Array.getElem?_toList, Array.getElem?_eq_getElem (by exact h)]
 rfl
end Go.Proofs.Ytgjbkdnbaphfkaa
namespace Go.Proofs.Ytgjbkdnbaphfkaa
open Go.RowKit
set_option linter.unusedVariables false
set_option linter.unusedSimpArgs false
set_option maxHeartbeats 1000000 in
theorem implIsStd_any (u lo : Int) (A : Option Addr) (n c : Nat) (l : List R2) (w : World) (hn : n ≤ 1048576) (h : Reads w w.heap.size 2 A n (rowsV2 l)) :
 Calls Try.prog 17 #[frV u lo A n c] w (RetV (.tuple #[.bool (goodB u lo l), .bool (frB u lo l)]) w) := by
 have H := Lib.hid h
 have hbx := Lib.hid (ext_alloc (ext_refl w) (.cells #[.int .i64 u, .int .i64 lo, .slice A n c] 26))
 have BF0 := Lib.hid (Blk.born w #[.int .i64 u, .int .i64 lo, .slice A n c] 26 (H := w.heap.size) rfl)
 have HF := Lib.hid (fun w h => isFrame_any u lo A n c l w hn h)
 have HS := Lib.hid (fun w h => standard_any u lo A n c l w hn h)
 obtain ⟨b, hb⟩ : ∃ b, frB u lo l = b := ⟨_, rfl⟩
 have HGB := Lib.hid (show goodB u lo l = (b && stdB l) by unfold goodB; rw [hb])
 rw [hb] at HF ⊢
 rw [HGB.out]
 clear h
 unfold RetV
 skip
 go_enter Try.func17, Try.ntmps17
 go_wp2_with fail
 refine (HF.out _ (rdx H.out hbx.out)).mono ?_
 rintro e w1 ⟨rfl, hb1⟩
 have BF1 := Lib.hid (BF0.out.ext hb1)
 have HB1 := Lib.hid (ext_trans hbx.out hb1)
 clear hb1
 obtain ⟨p0, p1, p2⟩ := BF1.out.q3
 have lf := BF1.out.lt
 have HQ := Lib.hid hb
 clear hb
 cases b
 · go_wp2
   go_ret2
   exact ⟨by simp, HB1.out⟩
 · go_wp2_with fail
   refine (HS.out _ (rdx H.out HB1.out)).mono ?_
   rintro e w2 ⟨rfl, hb2⟩
   have HB2 := Lib.hid (ext_trans HB1.out hb2)
   clear hb2
   go_wp2
   go_ret2
   exact ⟨by simp, HB2.out⟩
set_option maxHeartbeats 1000000 in
theorem specIsStd_any (u lo : Int) (A : Option Addr) (n c : Nat) (l : List R2) (w : World) (hn : n ≤ 1048576) (h : Reads w w.heap.size 2 A n (rowsV2 l)) :
 Calls Try.prog 19 #[frV u lo A n c] w (RetV (.tuple #[.bool (goodB u lo l), .bool (frB u lo l)]) w) := by
 have H := Lib.hid h
 have hbx := Lib.hid (ext_alloc (ext_refl w) (.cells #[.int .i64 u, .int .i64 lo, .slice A n c] 26))
 have BF0 := Lib.hid (Blk.born w #[.int .i64 u, .int .i64 lo, .slice A n c] 26 (H := w.heap.size) rfl)
 have HF := Lib.hid (fun w h => l2Good_any u lo A n c l w hn h)
 have HS := Lib.hid (fun w h => l2Standard_any u lo A n c l w hn h)
 obtain ⟨b, hb⟩ : ∃ b, frB u lo l = b := ⟨_, rfl⟩
 have HGB := Lib.hid (show goodB u lo l = (b && goodB u lo l) by unfold goodB; rw [hb]; cases b <;> simp)
 rw [hb] at HF ⊢
 rw [HGB.out]
 clear h
 unfold RetV
 skip
 go_enter Try.func19, Try.ntmps19
 go_wp2_with fail
 refine (HF.out _ (rdx H.out hbx.out)).mono ?_
 rintro e w1 ⟨rfl, hb1⟩
 have BF1 := Lib.hid (BF0.out.ext hb1)
 have HB1 := Lib.hid (ext_trans hbx.out hb1)
 clear hb1
 obtain ⟨p0, p1, p2⟩ := BF1.out.q3
 have lf := BF1.out.lt
 have HQ := Lib.hid hb
 clear hb
 cases b
 · go_wp2
   go_ret2
   exact ⟨by simp, HB1.out⟩
 · go_wp2_with fail
   refine (HS.out _ (rdx H.out HB1.out)).mono ?_
   rintro e w2 ⟨rfl, hb2⟩
   have HB2 := Lib.hid (ext_trans HB1.out hb2)
   clear hb2
   go_wp2
   go_ret2
   exact ⟨by simp, HB2.out⟩
end Go.Proofs.Ytgjbkdnbaphfkaa
namespace Go.Proofs.Ytgjbkdnbaphfkaa
open Go.RowKit
set_option linter.unusedVariables false
set_option linter.unusedSimpArgs false
set_option maxRecDepth 100000 in
set_option maxHeartbeats 2000000 in
theorem nrOn_any (u lo : Int) (A : Option Addr) (n c : Nat) (l : List R2) (w : World) (hn : n ≤ 1048576) (h : Reads w w.heap.size 2 A n (rowsV2 l)) :
 Calls Try.prog 16 #[frV u lo A n c] w fun e w' => e = .returned (.tuple #[.int .i64 (if frB u lo l = true then numR l else 0), .bool (frB u lo l)]) ∧ Below w.heap.size w w' := by
 have H := Lib.hid h
 have hbx := Lib.hid (ext_alloc (ext_refl w) (.cells #[.int .i64 u, .int .i64 lo, .slice A n c] 26))
 have BF0 := Lib.hid (Blk.born w #[.int .i64 u, .int .i64 lo, .slice A n c] 26 (H := w.heap.size) rfl)
 have HI := Lib.hid (fun (w : World) a => isFrame_any u lo A n c l w hn a)
 clear h
 cases hf : frB u lo l
 · rw [hf] at HI
   rw [if_neg (by decide)]
   go_enter Try.func16, Try.ntmps16
   go_wp2_with fail
   refine (HI.out _ (rdx H.out hbx.out)).mono ?_
   rintro e w1 ⟨rfl, hb⟩
   go_wp2
   go_ret2
   exact ⟨rfl, ext_trans hbx.out hb⟩
 · rw [hf] at HI
   rw [if_pos rfl]
   have HF := Lib.hid hf
   clear hf
   go_enter Try.func16, Try.ntmps16
   go_wp2_with fail
   refine (HI.out _ (rdx H.out hbx.out)).mono ?_
   rintro e w1 ⟨rfl, hb⟩
   have BF1 := Lib.hid (BF0.out.ext hb)
   have HB1 := Lib.hid (ext_trans hbx.out hb)
   clear hb
   obtain ⟨d0, d1, d2⟩ := BF1.out.q3
   have lf := BF1.out.lt
   go_wp2_with fail
   refine (number_any u lo A n c l _ HF.out (rdx H.out HB1.out)).mono ?_
   rintro e w2 ⟨rfl, hb⟩
   go_wp2
   go_ret2
   exact ⟨rfl, ext_trans HB1.out hb⟩
end Go.Proofs.Ytgjbkdnbaphfkaa
