/- The drawing of arguments: next, pick, one. -/
import Derived.Test.YtaghjaiaoajpiaaVBase
import Derived.Laws.Bits64b
import Derived.IntWalk
namespace Go.Proofs.Ytaghjaiaoajpiaa
open Go.RowKit
set_option linter.unusedVariables false
set_option linter.unusedSimpArgs false
/-- the bytes that a cursor on block g goes over, elsewhere -/
def Src (w : World) (g : Nat) (A : Option Addr) (n : Nat) : Prop :=
 0 < n → ∃ b o, A = some ⟨b, o, none⟩ ∧ b < g ∧ ∀ i, i < n → ∃ z : Int, w.cell? ⟨b, o + i, none⟩ = some (.int .u8 z) ∧ 0 ≤ z ∧ z ≤ 255
/-- only block g is written, all else only grows -/
abbrev Gr (g : Nat) (w w' : World) : Prop := w.grownBy w' (some g)
theorem Gr.of_ext {g : Nat} {w w' : World} (hb : Below w.heap.size w w') : Gr g w w' := ⟨hb.os, hb.tape, hb.output, hb.size, fun k hk _ => hb.block k hk⟩
theorem Gr.trans {g : Nat} {w w1 w2 : World} (h : Gr g w w1) (k : Gr g w1 w2) : Gr g w w2 :=
 ⟨k.os.trans h.os, k.tape.trans h.tape, k.output.trans h.output, Nat.le_trans h.size k.size, fun i hi hne => (k.block i (Nat.lt_of_lt_of_le hi h.size) hne).trans (h.block i hi hne)⟩
theorem Gr.below {g : Nat} {W w w' : World} (hb : Below W.heap.size W w) (h : Gr g w w') (hg : W.heap.size ≤ g) : Below W.heap.size W w' :=
 hb.grown h hb.size (fun k hk => by injection hk with hk; omega)
theorem Gr.set {g : Nat} {w w' : World} (h : Gr g w w') (i : Nat) (u : Value) : Gr g w (w'.setCell ⟨g, i, none⟩ u) := only_setCell h (.inl rfl) u
theorem Src.gr {w w' : World} {g n : Nat} {A : Option Addr} (h : Src w g A n) (hg : Gr g w w') : Src w' g A n := fun hn => by
 obtain ⟨b, o, e, hlt, hc⟩ := h hn
 refine ⟨b, o, e, hlt, fun i hi => ?_⟩
 obtain ⟨z, hz, h01⟩ := hc i hi
 exact ⟨z, hg.cell hz (by intro e; injection e with e; exact absurd (show b = g from e) (by omega)), h01⟩
/-- block g is a cursor over bytes that lie elsewhere, at place a -/
def CurAt (w : World) (g a : Nat) : Prop :=
 ∃ (A : Option Addr) (n c : Nat) (s : Int), Blk w g 60 #[.slice A n c, .int .i64 a, .int .u64 s] ∧ n ≤ 1000000000 ∧ Src w g A n
theorem CurAt.lt {w : World} {g a : Nat} (h : CurAt w g a) : g < w.heap.size := by
 obtain ⟨A, n, c, s, h1, _⟩ := h
 exact h1.lt
theorem CurAt.ext {w w' : World} {g a : Nat} (h : CurAt w g a) (hb : Below w.heap.size w w') : CurAt w' g a := by
 obtain ⟨A, n, c, s, h1, h2, h3⟩ := h
 exact ⟨A, n, c, s, h1.ext hb, h2, h3.gr (Gr.of_ext hb)⟩
/-- a store into a later block -/
theorem CurAt.far {w : World} {g a : Nat} (h : CurAt w g a) {p : Addr} (hp : g < p.block) (u : Value) : CurAt (w.setCell p u) g a := by
 obtain ⟨A, n, c, s, h1, h2, h3⟩ := h
 refine ⟨A, n, c, s, (Below.heap_setCell w p u g (by omega)).trans h1, h2, fun hn => ?_⟩
 obtain ⟨b, o, e, hlt, hc⟩ := h3 hn
 refine ⟨b, o, e, hlt, fun i hi => ?_⟩
 obtain ⟨z, hz, h01⟩ := hc i hi
 exact ⟨z, (World.cell?_setCell_far w p ⟨b, o + i, none⟩ u (show p.block ≠ b by omega)).trans hz, h01⟩
theorem Gr.setNew {g : Nat} {w w' : World} (h : Gr g w w') {p : Addr} (hp : w.heap.size ≤ p.block) (u : Value) : Gr g w (w'.setCell p u) := only_setCell h (.inr hp) u
/-- a number from 0 to m is drawn; the cursor goes on by K places at most -/
def DrawInt (g a K : Nat) (m : Int) (w : World) (e : Ending) (w' : World) : Prop := ∃ (z : Int) (a' : Nat), e = .returned (.int .i64 z) ∧ 0 ≤ z ∧ z ≤ m ∧ a' ≤ a + K ∧ CurAt w' g a' ∧ Gr g w w'
theorem seed_byte (S : Int) : 0 ≤ wrap64 (bits .and .u64 (IntKind.u64.wrap S / 1099511627776) 255) ∧ wrap64 (bits .and .u64 (IntKind.u64.wrap S / 1099511627776) 255) ≤ 255 := by
 have hw : IntKind.u64.wrap S = S % 18446744073709551616 := by simp [IntKind.wrap, IntKind.bits, IntKind.signed]
 obtain ⟨m, hm⟩ := Int.eq_ofNat_of_zero_le (a := IntKind.u64.wrap S / 1099511627776) (by omega)
 rw [hm, show (255 : Int) = ((255 : Nat) : Int) from rfl, bits_and_u64_nat m 255 (by omega) (by omega)]
 have h1 : m &&& 255 ≤ 255 := Nat.and_le_right
 rw [IntWalk.wrap64_in _ ⟨by omega, by omega⟩]
 omega
set_option maxHeartbeats 1000000 in
theorem next_any (g a : Nat) (w : World) (h : CurAt w g a) (ha : a ≤ 1000000000000) :
 Calls Try.prog 66 #[.pointer (some ⟨g, 0, none⟩)] w (DrawInt g a 1 255 w) := by
 obtain ⟨A, n, c, s, h1, h2, h3⟩ := h
 have hlt := h1.lt
 have c0 := h1.cell 0
 have c1 := h1.cell 1
 have c2 := h1.cell 2
 obtain ⟨f0, f1, f2⟩ := h1.z3
 simp at c0 c1 c2
 by_cases hin : a < n
 · obtain ⟨b, o, rfl, hbg, hc⟩ := h3 (by omega)
   have hne : b ≠ g := by omega
   have hbl : b < w.heap.size := by omega
   obtain ⟨z, hz, hz0, hz1⟩ := hc a hin
   have H1 := Lib.hid h1
   have H3 := Lib.hid h3
   clear hc h1 h3
   go_enter Try.func66, Try.ntmps66
   go_wp2
   (refine wp_region_later (by kernel_rfl) (by kernel_rfl) ?_; (repeat (go_big_quiet_step (fail))); refine wpQuiet_nil ?_; intro w1 hw1; obtain ⟨⟨wl, hbL⟩, hw1'⟩ := hw1; simp only at hw1'; subst hw1'; obtain ⟨hcL, hfL⟩ := bcell hbL)
   have zg1 : g < w1.heap.size := Nat.lt_of_lt_of_le hlt hbL.size
   have zb1 : b < w1.heap.size := Nat.lt_of_lt_of_le hbl hbL.size
   have HB1 := Lib.hid hbL
   clear hbL
   go_wp2
   (refine wp_region_later (by kernel_rfl) (by kernel_rfl) ?_; (repeat (go_big_quiet_step (fail))); refine wpQuiet_nil ?_; intro w1 hw1; obtain ⟨⟨wl, hbL⟩, hw1'⟩ := hw1; simp only at hw1'; subst hw1'; obtain ⟨hcL, hfL⟩ := bcell hbL)
   have zg2 := Nat.lt_of_lt_of_le zg1 hbL.size
   have HB2 := Lib.hid hbL
   clear hbL
   go_wp2
   (refine wp_region_later (by kernel_rfl) (by kernel_rfl) ?_; (repeat (go_big_quiet_step (fail))); refine wpQuiet_nil ?_; intro w1 hw1; obtain ⟨⟨wl, hbL⟩, hw1'⟩ := hw1; simp only at hw1'; subst hw1'; obtain ⟨hcL, hfL⟩ := bcell hbL)
   have HB3 := Lib.hid hbL
   clear hbL
   go_wp2
   go_ret
   refine ⟨z, a + 1, rfl, hz0, hz1, Nat.le_refl _, ?_⟩
   have g1 := ((((Gr.of_ext (g := g) HB1.out).trans (Gr.of_ext HB2.out)).set 1 _).set 2 _).trans (Gr.of_ext HB3.out)
   exact ⟨⟨_, _, _, _, ((((H1.out.ext HB1.out).ext HB2.out).set_ 1 _).set_ 2 _).ext HB3.out, h2, H3.out.gr g1⟩, g1⟩
 · have H1 := Lib.hid h1
   have H3 := Lib.hid h3
   clear h1 h3
   go_enter Try.func66, Try.ntmps66
   go_wp2
   (refine wp_region_later (by kernel_rfl) (by kernel_rfl) ?_; (repeat (go_big_quiet_step (fail))); refine wpQuiet_nil ?_; intro w1 hw1; obtain ⟨⟨wl, hbL⟩, hw1'⟩ := hw1; simp only at hw1'; subst hw1'; obtain ⟨hcL, hfL⟩ := bcell hbL)
   have zg1 : g < w1.heap.size := Nat.lt_of_lt_of_le hlt hbL.size
   have HB1 := Lib.hid hbL
   clear hbL
   go_wp2
   (refine wp_region_later (by kernel_rfl) (by kernel_rfl) ?_; (repeat (go_big_quiet_step (fail))); refine wpQuiet_nil ?_; intro w1 hw1; obtain ⟨⟨wl, hbL⟩, hw1'⟩ := hw1; simp only at hw1'; subst hw1'; obtain ⟨hcL, hfL⟩ := bcell hbL)
   have HB3 := Lib.hid hbL
   clear hbL
   go_wp2
   go_ret
   obtain ⟨q0, q1⟩ := seed_byte (IntKind.u64.wrap (IntKind.u64.wrap (s * 6364136223846793005)) + 100606)
   refine ⟨_, a + 1, rfl, q0, q1, Nat.le_refl _, ?_⟩
   have g1 := (((Gr.of_ext (g := g) HB1.out).set 1 _).set 2 _).trans (Gr.of_ext HB3.out)
   exact ⟨⟨_, _, _, _, (((H1.out.ext HB1.out).set_ 1 _).set_ 2 _).ext HB3.out, h2, H3.out.gr g1⟩, g1⟩
theorem drawInt_chain {g a K a' K' : Nat} {m : Int} {w w1 : World} (h : Gr g w w1) (ha : a' ≤ a + K) {e : Ending} {w' : World} (hd : DrawInt g a' K' m w1 e w') : DrawInt g a (K + K') m w e w' := by
 obtain ⟨z, a2, he, h0, h1, h2, h3, h4⟩ := hd
 exact ⟨z, a2, he, h0, h1, by omega, h3, h.trans h4⟩
set_option maxHeartbeats 1000000 in
theorem pick_any (g a n : Nat) (w : World) (h : CurAt w g a) (ha : a ≤ 900000000000) (hn : n ≤ 65536) (hn1 : 1 ≤ n) :
 Calls Try.prog 41 #[.pointer (some ⟨g, 0, none⟩), .int .i64 n] w (DrawInt g a 2 ((n : Int) - 1) w) := by
 by_cases h1 : n ≤ 1
 · go_enter Try.func41, Try.ntmps41
   go_wp2
   go_ret
   exact ⟨0, a, rfl, by omega, by omega, by omega, h, Gr.of_ext (ext_refl _)⟩
 · by_cases h2 : (200 : Int) < n
   · go_enter Try.func41, Try.ntmps41
     go_wp2_with fail
     refine (next_any g a _ h (by omega)).mono ?_
     rintro e w1 ⟨z1, a1, rfl, z10, z11, ha1, hc1, hg1⟩
     go_wp2_with fail
     refine (next_any g a1 _ hc1 (by omega)).mono ?_
     rintro e w2 ⟨z2, a2, rfl, z20, z21, ha2, hc2, hg2⟩
     go_wp2
     go_ret
     refine ⟨(z1 * 256 + z2) % n, a2, by go_num, Int.emod_nonneg _ (by omega), ?_, by omega, hc2, hg1.trans hg2⟩
     have := Int.emod_lt_of_pos (z1 * 256 + z2) (b := (n : Int)) (by omega)
     omega
   · go_enter Try.func41, Try.ntmps41
     go_wp2_with fail
     refine (next_any g a _ h (by omega)).mono ?_
     rintro e w1 ⟨z1, a1, rfl, z10, z11, ha1, hc1, hg1⟩
     go_wp2
     go_ret
     refine ⟨z1 % n, a1, by go_num, Int.emod_nonneg _ (by omega), ?_, by omega, hc1, hg1⟩
     have := Int.emod_lt_of_pos z1 (b := (n : Int)) (by omega)
     omega
/-- a yes or no is drawn -/
def DrawBool (g a K : Nat) (w : World) (e : Ending) (w' : World) : Prop := ∃ (b : Bool) (a' : Nat), e = .returned (.bool b) ∧ a' ≤ a + K ∧ CurAt w' g a' ∧ Gr g w w'
theorem one_any (g a n : Nat) (w : World) (h : CurAt w g a) (ha : a ≤ 900000000000) (hn : n ≤ 65536) (hn1 : 1 ≤ n) :
 Calls Try.prog 57 #[.pointer (some ⟨g, 0, none⟩), .int .i64 n] w (DrawBool g a 2 w) := by
 go_enter Try.func57, Try.ntmps57
 go_wp2_with fail
 refine (pick_any g a n _ h ha hn (by omega)).mono ?_
 rintro e w1 ⟨z1, a1, rfl, z10, z11, ha1, hc1, hg1⟩
 go_wp2
 go_ret
 exact ⟨_, a1, rfl, ha1, hc1, hg1⟩
/-- a slice of n cells each of which is a P -/
def AllAt (w : World) (g : Nat) (A : Option Addr) (n : Nat) (P : Value → Prop) : Prop := ∃ b o, A = some ⟨b, o, none⟩ ∧ b ≠ g ∧ ∀ i, i < n → ∃ u, w.cell? ⟨b, o + i, none⟩ = some u ∧ P u
theorem AllAt.gr {w w' : World} {g n : Nat} {A : Option Addr} {P : Value → Prop} (h : AllAt w g A n P) (hg : Gr g w w') : AllAt w' g A n P := by
 obtain ⟨b, o, e, hne, hc⟩ := h
 refine ⟨b, o, e, hne, fun i hi => ?_⟩
 obtain ⟨z, hz, h01⟩ := hc i hi
 exact ⟨z, hg.cell hz (by intro e; injection e with e; exact hne e), h01⟩
theorem allAt_lit (w : World) (g : Nat) (cs : List Value) (e : TypeId) {H : Nat} (hH : H = w.heap.size) (hg : g < w.heap.size) (P : Value → Prop) (hP : ∀ u ∈ cs, P u) : AllAt (w.alloc (.cells cs.toArray e)) g (some ⟨H, 0, none⟩) cs.length P := by
 subst hH
 refine ⟨_, _, rfl, by omega, fun i hi => ⟨cs[i], ?_, hP _ (List.getElem_mem hi)⟩⟩
 rw [World.cell?_alloc_at _ _ _ _ rfl]
 simp [hi]
def StrLe (M : Nat) (u : Value) : Prop := ∃ s : ByteArray, u = .string s ∧ s.size ≤ M
def IntIn (lo hi : Int) (u : Value) : Prop := ∃ z : Int, u = .int .i64 z ∧ lo ≤ z ∧ z ≤ hi
/-- a text no longer than M is drawn -/
def DrawStr (g a K M : Nat) (w : World) (e : Ending) (w' : World) : Prop := ∃ (s : ByteArray) (a' : Nat), e = .returned (.string s) ∧ s.size ≤ M ∧ a' ≤ a + K ∧ CurAt w' g a' ∧ Gr g w w'
/-- a number from lo to hi is drawn -/
def DrawIn (g a K : Nat) (lo hi : Int) (w : World) (e : Ending) (w' : World) : Prop := ∃ (z : Int) (a' : Nat), e = .returned (.int .i64 z) ∧ lo ≤ z ∧ z ≤ hi ∧ a' ≤ a + K ∧ CurAt w' g a' ∧ Gr g w w'
theorem among_any (g a : Nat) (A : Option Addr) (n c : Nat) (lo hi : Int) (w : World) (h : CurAt w g a) (ha : a ≤ 900000000000) (hn : n ≤ 65536) (hpos : 0 < n) (hl : AllAt w g A n (IntIn lo hi)) :
 Calls Try.prog 32 #[.pointer (some ⟨g, 0, none⟩), .slice A n c] w (DrawIn g a 2 lo hi w) := by
 go_enter Try.func32, Try.ntmps32
 go_wp2_with fail
 refine (pick_any g a n _ h ha hn (by omega)).mono ?_
 rintro e w1 ⟨z1, a1, rfl, z10, z11, ha1, hc1, hg1⟩
 obtain ⟨k, rfl⟩ := Int.eq_ofNat_of_zero_le z10
 obtain ⟨b, o, rfl, hne, hc⟩ := hl.gr hg1
 obtain ⟨u, hu, x, rfl, hx0, hx1⟩ := hc k (by omega)
 clear hc hl
 have hk : (k : Int) < n := by omega
 go_wp2
 go_ret
 exact ⟨x, a1, rfl, hx0, hx1, ha1, hc1, hg1⟩
end Go.Proofs.Ytaghjaiaoajpiaa
namespace Go.Proofs.Ytaghjaiaoajpiaa
open Go.RowKit
set_option linter.unusedVariables false
set_option linter.unusedSimpArgs false
/-- a slice of bytes, below block B -/
def Code (w : World) (B : Nat) (A : Option Addr) (n : Nat) : Prop :=
 0 < n → ∃ b o, A = some ⟨b, o, none⟩ ∧ b < B ∧ ∀ i, i < n → ∃ z : Int, w.cell? ⟨b, o + i, none⟩ = some (.int .u8 z) ∧ 0 ≤ z ∧ z ≤ 255
theorem Code.below {w w' : World} {B n : Nat} {A : Option Addr} (h : Code w B A n) (hb : Below B w w') : Code w' B A n := fun hn => by
 obtain ⟨b, o, e, hlt, hc⟩ := h hn
 refine ⟨b, o, e, hlt, fun i hi => ?_⟩
 obtain ⟨z, hz, h01⟩ := hc i hi
 exact ⟨z, (hb.cell (p := ⟨b, o + i, none⟩) hlt).trans hz, h01⟩
theorem Code.more {w : World} {B B' n : Nat} {A : Option Addr} (h : Code w B A n) (hB : B ≤ B') : Code w B' A n := fun hn => by
 obtain ⟨b, o, e, hlt, hc⟩ := h hn
 exact ⟨b, o, e, Nat.lt_of_lt_of_le hlt hB, hc⟩
theorem Blk.new (w : World) (cs : Array Value) (t : TypeId) : Blk (w.alloc (.cells cs t)) w.heap.size t cs := by
 unfold Blk
 simp [World.alloc, -World.alloc_eq]
theorem Code.cur {w : World} {n : Nat} {A : Option Addr} (h : Code w w.heap.size A n) (hn : n ≤ 1000000000) (c : Nat) : CurAt (w.alloc (.cells #[.slice A n c, .int .i64 0, .int .u64 0] 60)) w.heap.size 0 := by
 refine ⟨A, n, c, 0, Blk.new w _ _, hn, fun h0 => ?_⟩
 obtain ⟨b, o, e, hlt, hc⟩ := h h0
 refine ⟨b, o, e, hlt, fun i hi => ?_⟩
 obtain ⟨z, hz, h01⟩ := hc i hi
 exact ⟨z, ext_cell (ext_alloc (ext_refl _) _) hz, h01⟩
/-- the same where a block of the call's own lies below it -/
theorem Code.cur1 {w : World} {n : Nat} {A : Option Addr} (h : Code w w.heap.size A n) (hn : n ≤ 1000000000) (c : Nat) (o : Obj) : CurAt ((w.alloc o).alloc (.cells #[.slice A n c, .int .i64 0, .int .u64 0] 60)) (w.heap.size + 1) 0 := by
 have := Code.cur ((h.below (ext_alloc (ext_refl _) o)).more (B' := (w.alloc o).heap.size) (by simp)) hn c
 simpa using this
end Go.Proofs.Ytaghjaiaoajpiaa
namespace Go.Proofs.Ytaghjaiaoajpiaa
open Go.RowKit
set_option linter.unusedVariables false
set_option linter.unusedSimpArgs false
structure R2 where
 a : Int
 b : Int
theorem R2.eq_iff (r s : R2) : r = s ↔ (r.a = s.a ∧ r.b = s.b) := by
 cases r; cases s; simp
instance : DecidableEq R2 := fun r s => decidable_of_iff _ (R2.eq_iff r s).symm
def eq2 (r s : R2) : Bool := decide (r = s)
def R2.cells (r : R2) : List Value := [.int .i64 r.a, .int .i64 r.b]
abbrev R2.val (r : R2) : Value := .agg #[.int .i64 r.a, .int .i64 r.b]
def rowsV2 (l : List R2) : List Value := l.flatMap R2.cells
theorem rowsV_len2 (l : List R2) : (rowsV2 l).length = l.length * 2 := flat_len R2.cells 2 (fun _ => rfl) l
theorem rowsV_get2 {l : List R2} {k : Nat} {r : R2} (h : l[k]? = some r) :
 (rowsV2 l)[k * 2 + 0]? = some (.int .i64 r.a) ∧ (rowsV2 l)[k * 2 + 1]? = some (.int .i64 r.b) :=
 ⟨flat_get R2.cells 2 (fun _ => rfl) l k 0 r h (by omega), flat_get R2.cells 2 (fun _ => rfl) l k 1 r h (by omega)⟩
theorem rows_at2 {w : World} {B n : Nat} {A : Option Addr} {l : List R2} (h : Reads w B 2 A n (rowsV2 l)) {k : Nat} {r : R2} (hr : l[k]? = some r) :
 ∃ b o, A = some ⟨b, o, none⟩ ∧ b < B ∧ w.cell? ⟨b, o + k * 2, none⟩ = some (.int .i64 r.a) ∧ w.cell? ⟨b, o + k * 2 + 1, none⟩ = some (.int .i64 r.b) := by
 have hk : k < l.length := (List.getElem?_eq_some_iff.1 hr).1
 have hn : l.length * 2 = n * 2 := by rw [← rowsV_len2]; exact h.1
 obtain ⟨b, o, hA, hb, hc⟩ := h.2 (by omega)
 obtain ⟨h0, h1⟩ := rowsV_get2 hr
 exact ⟨b, o, hA, hb, hc _ _ h0, hc _ _ h1⟩
theorem rows_len2 {w : World} {B n : Nat} {A : Option Addr} {l : List R2} (h : Reads w B 2 A n (rowsV2 l)) : l.length = n := by
 have := h.1; rw [rowsV_len2] at this; omega
end Go.Proofs.Ytaghjaiaoajpiaa
namespace Go.Proofs.Ytaghjaiaoajpiaa
open Go.RowKit
set_option linter.unusedVariables false
set_option linter.unusedSimpArgs false
structure R3 where
 a : Int
 b : Int
 c : Int
theorem R3.eq_iff (r s : R3) : r = s ↔ (r.a = s.a ∧ r.b = s.b ∧ r.c = s.c) := by
 cases r; cases s; simp
instance : DecidableEq R3 := fun r s => decidable_of_iff _ (R3.eq_iff r s).symm
def eq3 (r s : R3) : Bool := decide (r = s)
def R3.cells (r : R3) : List Value := [.int .i64 r.a, .int .i64 r.b, .int .i64 r.c]
abbrev R3.val (r : R3) : Value := .agg #[.int .i64 r.a, .int .i64 r.b, .int .i64 r.c]
def rowsV3 (l : List R3) : List Value := l.flatMap R3.cells
theorem rowsV_len3 (l : List R3) : (rowsV3 l).length = l.length * 3 := flat_len R3.cells 3 (fun _ => rfl) l
theorem rowsV_get3 {l : List R3} {k : Nat} {r : R3} (h : l[k]? = some r) :
 (rowsV3 l)[k * 3 + 0]? = some (.int .i64 r.a) ∧ (rowsV3 l)[k * 3 + 1]? = some (.int .i64 r.b) ∧ (rowsV3 l)[k * 3 + 2]? = some (.int .i64 r.c) :=
 ⟨flat_get R3.cells 3 (fun _ => rfl) l k 0 r h (by omega), flat_get R3.cells 3 (fun _ => rfl) l k 1 r h (by omega), flat_get R3.cells 3 (fun _ => rfl) l k 2 r h (by omega)⟩
theorem rows_at3 {w : World} {B n : Nat} {A : Option Addr} {l : List R3} (h : Reads w B 3 A n (rowsV3 l)) {k : Nat} {r : R3} (hr : l[k]? = some r) :
 ∃ b o, A = some ⟨b, o, none⟩ ∧ b < B ∧ w.cell? ⟨b, o + k * 3, none⟩ = some (.int .i64 r.a) ∧ w.cell? ⟨b, o + k * 3 + 1, none⟩ = some (.int .i64 r.b) ∧ w.cell? ⟨b, o + k * 3 + 2, none⟩ = some (.int .i64 r.c) := by
 have hk : k < l.length := (List.getElem?_eq_some_iff.1 hr).1
 have hn : l.length * 3 = n * 3 := by rw [← rowsV_len3]; exact h.1
 obtain ⟨b, o, hA, hb, hc⟩ := h.2 (by omega)
 obtain ⟨h0, h1, h2⟩ := rowsV_get3 hr
 exact ⟨b, o, hA, hb, hc _ _ h0, hc _ _ h1, hc _ _ h2⟩
theorem rows_len3 {w : World} {B n : Nat} {A : Option Addr} {l : List R3} (h : Reads w B 3 A n (rowsV3 l)) : l.length = n := by
 have := h.1; rw [rowsV_len3] at this; omega
end Go.Proofs.Ytaghjaiaoajpiaa
namespace Go.Proofs.Ytaghjaiaoajpiaa
open Go.RowKit
set_option linter.unusedVariables false
set_option linter.unusedSimpArgs false
theorem cells_new_at (w : World) (cs : List Value) (e : TypeId) {H : Nat} (hH : H = w.heap.size) : ∀ j u, cs[j]? = some u → (w.alloc (.cells cs.toArray e)).cell? ((⟨H, 0, none⟩ : Addr).add j) = some u := by
 subst hH
 intro j u hj
 have hk : j < cs.length := (List.getElem?_eq_some_iff.1 hj).1
 rw [add_flat, Nat.zero_add, World.cell?_alloc_at _ _ _ _ rfl]
 simpa using hj
theorem own_ext {w w' : World} {base E size n : Nat} {v : Value} {xs : List Value} (h : w.ownsRow base E size v n xs) (hb : Below w.heap.size w w') : w'.ownsRow base E size v n xs :=
 h.kept (row := none) ⟨hb.os, hb.tape, hb.output, hb.size, fun k hk _ => hb.block k hk⟩ (by
  rcases hv : v.ownBlock with _ | g
  · exact .inl rfl
  · exact .inr (by simp))
theorem cell_far_grown {wx w2 : World} {row : Option Nat} {p : Addr} {u : Value} (hg : wx.grownBy w2 row) (hne : row ≠ some p.block) (h : wx.cell? p = some u) : w2.cell? p = some u := hg.cell h (fun e => hne e.symm)
theorem own_base {w : World} {base base' E size n : Nat} {v : Value} {xs : List Value} (h : w.ownsRow base E size v n xs) (hb : base' ≤ base) : w.ownsRow base' E size v n xs := by
 rcases h.2 with ⟨h1, h2⟩ | ⟨g, cap, cur, hv, hg, h3⟩
 · exact ⟨h.1, .inl ⟨h1, h2⟩⟩
 · exact ⟨h.1, .inr ⟨g, cap, cur, hv, Nat.le_trans hb hg, h3⟩⟩
theorem list_split {α : Type} {l : List α} {k : Nat} (h : k < l.length) : ∃ r, l[k]? = some r := ⟨l[k], List.getElem?_eq_getElem h⟩
theorem own_lit0 (w : World) (E size : Nat) : (w.alloc (.cells #[] E)).ownsRow w.heap.size E size (.slice (some ⟨w.heap.size, 0, none⟩) 0 0) 0 [] :=
 World.ownsRow_made w #[] 0 (Nat.le_refl _) (Nat.zero_le _) (by simp)
theorem cell_old {w : World} {p : Addr} {v : Value} (h : w.cell? p = some v) (o : Obj) : (w.alloc o).cell? p = some v := by
 rw [World.cell?_alloc_some w p o (by rw [h]; rfl)]; exact h
theorem size_mono {w w' : World} (hb : Below w.heap.size w w') : ∀ b, b < w.heap.size → b < w'.heap.size := fun _ h => Nat.lt_of_lt_of_le h hb.size
theorem cell_drew {w : World} {p : Addr} {v : Value} (h : w.cell? p = some v) : w.drew.cell? p = some v := h
theorem cell_set_far {w : World} {p q : Addr} {v u : Value} (hne : q.block ≠ p.block) (h : w.cell? p = some v) : (w.setCell q u).cell? p = some v := by
 rw [World.cell?_setCell_far _ _ _ _ (by simpa using hne)]; exact h
theorem own_far_lt {w : World} {B E size n b : Nat} {v : Value} {xs : List Value} (h : w.ownsRow B E size v n xs) (hb : b < B) : v.ownBlock ≠ some b := fun e => by have := (h.lt b e).1; omega
theorem own_far_ge {w : World} {B E size n b : Nat} {v : Value} {xs : List Value} (h : w.ownsRow B E size v n xs) (hb : w.heap.size ≤ b) : v.ownBlock ≠ some b := fun e => by have := (h.lt b e).2; omega
/-- what a law's sum of sizes leaves -/
def szv (left cost : Int) : Int := if left < cost then -1 else left - cost
theorem szv_no {left cost : Int} (h : left < cost) : szv left cost = -1 := if_pos h
theorem szv_yes {left cost : Int} (h : ¬ left < cost) : szv left cost = left - cost := if_neg h
end Go.Proofs.Ytaghjaiaoajpiaa
namespace Go.Proofs.Ytaghjaiaoajpiaa
open Go.RowKit
set_option linter.unusedVariables false
set_option linter.unusedSimpArgs false
theorem take_eq_succ {α : Type} {l m : List α} {k : Nat} {r s : α} (h : l.take k = m.take k) (hr : l[k]? = some r) (hs : m[k]? = some s) : l.take (k + 1) = m.take (k + 1) ↔ r = s := by
 rw [List.take_add_one, List.take_add_one, hr, hs, h]; simp
/-- what marking leaves in the cells -/
def marks (k0 : Int) (n : Nat) : List Value := (List.range n).map fun (i : Nat) => Value.int .i64 (k0 + (i : Int))
theorem marks_len (k0 : Int) (n : Nat) : (marks k0 n).length = n := by simp [marks]
theorem marks_get {k0 : Int} {n j : Nat} (h : j < n) : (marks k0 n)[j]? = some (.int .i64 (k0 + (j : Int))) := by simp [marks, h]
theorem marks_set {k0 : Int} {k : Nat} {xs : List Value} (h : k < xs.length) : (marks k0 k ++ xs.drop k).set k (.int .i64 (k0 + (k : Int))) = marks k0 (k + 1) ++ xs.drop (k + 1) := by
 rw [List.set_append_right _ _ (by rw [marks_len]; exact Nat.le_refl _), marks_len, Nat.sub_self, List.drop_eq_getElem_cons h, List.set_cons_zero]
 simp [marks, List.range_succ]
theorem marks_set' {k0 z : Int} {k : Nat} {xs : List Value} (h : k < xs.length) (hz : z = k0 + (k : Int)) : (marks k0 k ++ xs.drop k).set k (.int .i64 z) = marks k0 (k + 1) ++ xs.drop (k + 1) := by
 rw [hz]; exact marks_set h
end Go.Proofs.Ytaghjaiaoajpiaa
namespace Go.Proofs.Ytaghjaiaoajpiaa
open Go.RowKit
set_option linter.unusedVariables false
set_option linter.unusedSimpArgs false
def intsV (zs : List Int) : List Value := zs.map (Value.int .i64)
theorem intsV_get {zs : List Int} {k : Nat} {z : Int} (h : zs[k]? = some z) : (intsV zs)[k]? = some (.int .i64 z) := by simp [intsV, h]
theorem ints_at {w : World} {B n : Nat} {A : Option Addr} {zs : List Int} (h : Reads w B 1 A n (intsV zs)) {k : Nat} {z : Int} (hz : zs[k]? = some z) :
 ∃ b o, A = some ⟨b, o, none⟩ ∧ b < B ∧ w.cell? ⟨b, o + k, none⟩ = some (.int .i64 z) := by
 have hk : k < zs.length := (List.getElem?_eq_some_iff.1 hz).1
 have hn : zs.length = n * 1 := by simpa [intsV] using h.1
 obtain ⟨b, o, hA, hb, hc⟩ := h.2 (by omega)
 exact ⟨b, o, hA, hb, hc _ _ (intsV_get hz)⟩
theorem ints_len {w : World} {B n : Nat} {A : Option Addr} {zs : List Int} (h : Reads w B 1 A n (intsV zs)) : zs.length = n := by
 have := h.1; simp [intsV] at this; omega
def eqI (r s : Int) : Bool := decide (r = s)
end Go.Proofs.Ytaghjaiaoajpiaa
namespace Go.Proofs.Ytaghjaiaoajpiaa
open Go.RowKit
set_option linter.unusedVariables false
set_option linter.unusedSimpArgs false
def unl (listed : Array Bool) : Nat := listed.toList.count false
theorem unl_zero {md : Region.Mode} {ops : Array Oper} {listed : Array Bool} (h : unl listed = 0) : Region.ready md ops listed = [] := by
 rcases hr : Region.ready md ops listed with _ | ⟨i, rs⟩
 · rfl
 · have hi : i ∈ Region.ready md ops listed := by rw [hr]; simp
   obtain ⟨h0, _⟩ := mem_ready.1 hi
   have hm : false ∈ listed.toList := by
    by_cases hlt : i < listed.size
    · have : listed[i] = false := by simpa [hlt] using h0
      rw [← this]
      simp
    · simp [Array.getElem?_eq_none (Nat.le_of_not_lt hlt)] at h0
   have := List.count_pos_iff.2 hm
   unfold unl at h
   omega
theorem unl_set {listed : Array Bool} {i : Nat} (h : listed.getD i true = false) : unl (listed.setIfInBounds i true) + 1 = unl listed := by
 by_cases hlt : i < listed.size
 · have hf : listed[i] = false := by simpa [hlt] using h
   unfold unl
   rw [Array.toList_setIfInBounds, List.count_set (by simpa using hlt)]
   have hp : 0 < List.count false listed.toList := List.count_pos_iff.2 (by rw [← hf]; simp)
   have e1 : (listed.toList[i]'(by simpa using hlt) == false) = true := by simp [hf]
   rw [if_pos e1, if_neg (by decide)]
   omega
 · simp [Array.getElem?_eq_none (Nat.le_of_not_lt hlt)] at h
theorem wpAny_inv {P : Program} {ops : Array Oper} {Q : Exit → Act → World → Prop} {md : Region.Mode} {I : Array Bool → Act → World → Prop}
 (hstep : ∀ listed a w i, I listed a w → i ∈ Region.ready md ops listed → wpOp P ops Q i (I (listed.setIfInBounds i true)) a w)
 (hend : ∀ listed a w, I listed a w → Region.ready md ops listed = [] → Q .normal a w) :
 ∀ (fuel : Nat) (listed : Array Bool) (a : Act) (w : World), I listed a w → unl listed ≤ fuel → wpAny P md ops Q fuel listed a w := by
 intro fuel
 induction fuel with
 | zero =>
   intro listed a w hI h0
   have hr := unl_zero (md := md) (ops := ops) (listed := listed) (by omega)
   exact ⟨hr, hend _ _ _ hI hr⟩
 | succ f ih =>
   intro listed a w hI hf
   refine ⟨fun hr => hend _ _ _ hI hr, fun i hi => ?_⟩
   have hu := unl_set (mem_ready.1 hi).1
   exact wpOp_mono (fun a' w' h => ih _ a' w' h (by omega)) (hstep _ _ _ _ hI hi)
def lst (listed : Array Bool) (j : Nat) : Prop := listed.getD j false = true
theorem lst_rep {n j : Nat} : ¬ lst (Array.replicate n false) j := by
 unfold lst
 simp only [Array.getD_eq_getD_getElem?, Array.getElem?_replicate]
 split <;> simp
theorem lst_set {listed : Array Bool} {i j : Nat} : lst (listed.setIfInBounds i true) j ↔ (j = i ∧ i < listed.size) ∨ lst listed j := by
 unfold lst
 by_cases e : i = j
 · subst e
   by_cases hlt : i < listed.size
   · simp [hlt]
   · simp [hlt]
 · rw [getD_set_ne false e]
   simp [Ne.symm e]
theorem lst_no {listed : Array Bool} {i : Nat} (h : listed.getD i true = false) : ¬ lst listed i ∧ i < listed.size := by
 by_cases hlt : i < listed.size
 · refine ⟨?_, hlt⟩
   unfold lst
   simp [hlt] at h ⊢
   exact h
 · simp [Array.getElem?_eq_none (Nat.le_of_not_lt hlt)] at h
def later (ops : Array Oper) : Bool := (List.range ops.size).all fun j => match ops[j]? with | none => true | some o => o.after.all fun e => decide (e.on < j)
theorem all_listed {md : Region.Mode} {ops : Array Oper} {listed : Array Bool} (hl : later ops = true) (hsz : listed.size = ops.size) (hr : Region.ready md ops listed = []) : ∀ j, j < ops.size → lst listed j := by
 intro j
 induction j using Nat.strongRecOn with
 | _ j ih =>
   intro hj
   rcases hb : listed.getD j true with _ | _
   · exfalso
     have hm : j ∈ Region.ready md ops listed := by
      refine mem_ready.2 ⟨hb, ops[j], by simp [hj], fun e he _ => ?_⟩
      have h1 := List.all_eq_true.1 hl j (by simpa using hj)
      simp only [Array.getElem?_eq_getElem hj, Array.all_eq_true_iff_forall_mem, decide_eq_true_eq] at h1
      have h2 := h1 e he
      exact ih e.on h2 (by omega)
     rw [hr] at hm
     cases hm
   · unfold lst
     have : j < listed.size := by omega
     simp [this] at hb ⊢
     exact hb
/-- the frame a, the n slots from d on being vs -/
def slots (a : Act) (d : Nat) (vs : Nat → Value) : Nat → Act
 | 0 => a
 | n + 1 => (slots a d vs n).put (some (d + n)) (vs n)
def upd (vs : Nat → Value) (i : Nat) (v : Value) : Nat → Value := fun k => if k = i then v else vs k
theorem upd_same (vs : Nat → Value) (i : Nat) (v : Value) : upd vs i v i = v := by simp [upd]
theorem upd_ne (vs : Nat → Value) {i k : Nat} (v : Value) (h : k ≠ i) : upd vs i v k = vs k := by simp [upd, h]
def closed (ops : Array Oper) (listed : Array Bool) : Prop := ∀ j o, ops[j]? = some o → lst listed j → ∀ e ∈ o.after, Region.binds .any e = true → lst listed e.on
theorem slots_size (a : Act) (d : Nat) (vs : Nat → Value) : ∀ n, (slots a d vs n).tmps.size = a.tmps.size := by
 intro n
 induction n with
 | zero => rfl
 | succ n ih => simp only [slots, Act.put, Array.size_setIfInBounds]; exact ih
theorem slots_congr (a : Act) (d : Nat) {vs us : Nat → Value} : ∀ n, (∀ k, k < n → vs k = us k) → slots a d vs n = slots a d us n := by
 intro n
 induction n with
 | zero => intro _; rfl
 | succ n ih => intro h; simp only [slots]; rw [ih (fun k hk => h k (by omega)), h n (by omega)]
theorem slots_put (a : Act) (d : Nat) (vs : Nat → Value) {i : Nat} (v : Value) : ∀ n, i < n → (slots a d vs n).put (some (d + i)) v = slots a d (upd vs i v) n := by
 intro n
 induction n with
 | zero => intro h; omega
 | succ n ih =>
   intro h
   simp only [slots]
   by_cases e : i = n
   · subst e
     rw [upd_same, slots_congr a d (vs := upd vs i v) (us := vs) i (fun k hk => upd_ne _ _ (by omega))]
     simp [Act.put]
   · rw [Act.put_comm _ _ _ (by intro x hx; injection hx with hx; subst hx; intro e2; injection e2 with e2; omega), ih (by omega), upd_ne _ _ (by omega)]
theorem slots_at (a : Act) (d : Nat) (vs : Nat → Value) {k : Nat} : ∀ n, k < n → d + n ≤ a.tmps.size → (slots a d vs n).eval (.tmp (d + k)) = vs k := by
 intro n
 induction n with
 | zero => intro h; omega
 | succ n ih =>
   intro h hs
   simp only [slots]
   by_cases e : k = n
   · subst e
     have := slots_size a d vs k
     simp [Act.eval, Act.put]
     intro hx
     omega
   · rw [Act.eval_put (by intro x hx; injection hx with hx; subst hx; intro e2; injection e2 with e2; have e3 : d + k = d + n := e2; omega)]
     exact ih (by omega) (by omega)
theorem slots_out (a : Act) (d : Nat) (vs : Nat → Value) {t : Nat} (ht : t < d) : ∀ n, (slots a d vs n).eval (.tmp t) = a.eval (.tmp t) := by
 intro n
 induction n with
 | zero => rfl
 | succ n ih =>
   simp only [slots]
   rw [Act.eval_put (by intro x hx; injection hx with hx; subst hx; intro e2; injection e2 with e2; have e3 : t = d + n := e2; omega)]
   exact ih
theorem wp_region_slots {P : Program} {id : Nat} {ops : Array Oper} {Q : Exit → Act → World → Prop} {a : Act} {w : World} (hm : P.follows .mixedOrders = true) (hlat : later ops = true) (d n : Nat) (vs0 : Nat → Value) (ha : slots a d vs0 n = a) (E : Act → Prop) (hE : E a)
 (J : Array Bool → (Nat → Value) → World → Prop) (h0 : J (Array.replicate ops.size false) vs0 w.drew)
 (hstep : ∀ a0 listed vs w i o, E a0 → J listed vs w → closed ops listed → i < listed.size → ¬ lst listed i → ops[i]? = some o → (∀ e ∈ o.after, Region.binds .any e = true → lst listed e.on) →
  wpOp P ops Q i (fun a' w' => ∃ vs', a' = slots a0 d vs' n ∧ J (listed.setIfInBounds i true) vs' w') (slots a0 d vs n) w)
 (hend : ∀ listed vs w, J listed vs w → (∀ j, j < ops.size → lst listed j) → Q .normal (slots a d vs n) w) : (Code.region id ops true).wp P Q a w := by
 refine wp_region_any hm ?_
 refine wpAny_inv (I := fun listed a' w' => listed.size = ops.size ∧ closed ops listed ∧ ∃ vs, a' = slots a d vs n ∧ J listed vs w') ?_ ?_ _ _ _ _ ⟨by simp, ?_, vs0, ha.symm, h0⟩ ?_
 · rintro listed _ w' i ⟨hsz, hcl, vs, rfl, hJ⟩ hi
   obtain ⟨h1, o, ho, h2⟩ := mem_ready.1 hi
   obtain ⟨h3, h4⟩ := lst_no h1
   refine wpOp_mono ?_ (hstep a _ _ _ _ o hE hJ hcl h4 h3 ho h2)
   rintro a' w'' ⟨vs', e, hJ'⟩
   refine ⟨by simpa using hsz, ?_, vs', e, hJ'⟩
   intro j oj hoj hj e he hb
   rw [lst_set] at hj ⊢
   rcases hj with ⟨rfl, _⟩ | hj
   · rw [ho] at hoj
     injection hoj with hoj
     subst hoj
     exact .inr (h2 e he hb)
   · exact .inr (hcl j oj hoj hj e he hb)
 · rintro listed _ w' ⟨hsz, _, vs, rfl, hJ⟩ hr
   exact hend _ _ _ hJ (all_listed hlat hsz hr)
 · intro j o _ hj
   exact absurd hj lst_rep
 · simp [unl]
theorem wpOp_of {P : Program} {ops : Array Oper} {Q : Exit → Act → World → Prop} {i : Nat} {K' : Act → World → Prop} {a : Act} {w : World} {o : Oper} (ho : ops[i]? = some o)
 (h : ∀ K : Act → World → Prop, (∀ a w, K' a w → K a w) → if Region.wanted o (yielded ops a.tmps) = true then Oper.wp P o a w K Q else K (a.put o.dst undef) w) : wpOp P ops Q i K' a w := by
 have := h K' (fun _ _ h => h)
 unfold wpOp
 simp only [ho]
 by_cases hw : Region.wanted o (yielded ops a.tmps) = true
 · rw [if_pos hw] at this ⊢
   exact .inl this
 · rw [if_neg hw] at this ⊢
   exact this
theorem wpOp_slots {P : Program} {ops : Array Oper} {Q : Exit → Act → World → Prop} {i d n : Nat} {a0 : Act} {vs : Nat → Value} {w : World} {o : Oper} {J' : (Nat → Value) → World → Prop} (ho : ops[i]? = some o) (hi : i < n) (hsz : d + n ≤ a0.tmps.size)
 (h : ∀ (b : Act) (K : Act → World → Prop), (∀ t, t < d → b.tmps[t]?.getD undef = a0.eval (.tmp t)) → (∀ k, k < n → b.tmps[d + k]?.getD undef = vs k) → (∀ v w', J' (upd vs i v) w' → K (b.put (some (d + i)) v) w') → (∀ w', J' vs w' → K b w') →
  if Region.wanted o (yielded ops b.tmps) = true then Oper.wp P o b w K Q else K (b.put o.dst undef) w) :
 wpOp P ops Q i (fun a' w' => ∃ vs', a' = slots a0 d vs' n ∧ J' vs' w') (slots a0 d vs n) w :=
 wpOp_of ho fun K hK => h _ K (fun t ht => (Array.getD_eq_getD_getElem? ..).symm.trans (slots_out a0 d vs ht n)) (fun k hk => (Array.getD_eq_getD_getElem? ..).symm.trans (slots_at a0 d vs n hk hsz)) (fun v w' hJ => hK _ _ ⟨upd vs i v, slots_put a0 d vs v n hi, hJ⟩) (fun w' hJ => hK _ _ ⟨vs, rfl, hJ⟩)
theorem wpOp_last {P : Program} {ops : Array Oper} {Q : Exit → Act → World → Prop} {i d n : Nat} {a0 : Act} {vs : Nat → Value} {w : World} {o : Oper} {J' : (Nat → Value) → World → Prop} (ho : ops[i]? = some o) (hsz : d + n ≤ a0.tmps.size)
 (h : ∀ (b : Act) (K : Act → World → Prop), (∀ t, t < d → b.tmps[t]?.getD undef = a0.eval (.tmp t)) → (∀ k, k < n → b.tmps[d + k]?.getD undef = vs k) → (∀ w', J' vs w' → K b w') →
  if Region.wanted o (yielded ops b.tmps) = true then Oper.wp P o b w K Q else K (b.put o.dst undef) w) :
 wpOp P ops Q i (fun a' w' => ∃ vs', a' = slots a0 d vs' n ∧ J' vs' w') (slots a0 d vs n) w :=
 wpOp_of ho fun K hK => h _ K (fun t ht => (Array.getD_eq_getD_getElem? ..).symm.trans (slots_out a0 d vs ht n)) (fun k hk => (Array.getD_eq_getD_getElem? ..).symm.trans (slots_at a0 d vs n hk hsz)) (fun w' hJ => hK _ _ ⟨vs, rfl, hJ⟩)
end Go.Proofs.Ytaghjaiaoajpiaa
namespace Go.Proofs.Ytaghjaiaoajpiaa
open Go.RowKit
set_option linter.unusedVariables false
set_option linter.unusedSimpArgs false
theorem Blk.gr {w w' : World} {g L : Nat} {t : TypeId} {cs : Array Value} (h : Blk w L t cs) (hg : Gr g w w') (hne : L ≠ g) : Blk w' L t cs := (hg.block L h.lt (by intro e; injection e with e; exact hne e)).trans h
theorem Blk.far {w : World} {L : Nat} {t : TypeId} {cs : Array Value} (h : Blk w L t cs) {p : Addr} (hne : L ≠ p.block) (u : Value) : Blk (w.setCell p u) L t cs := (Below.heap_setCell w p u L hne).trans h
theorem allAt_ext {w w' : World} {g n : Nat} {A : Option Addr} {P : Value → Prop} (h : AllAt w g A n P) (hb : Below w.heap.size w w') : AllAt w' g A n P := h.gr (Gr.of_ext hb)
theorem among_lit (g a : Nat) (lo hi : Int) (l : List Int) (e : TypeId) (w : World) (h : CurAt w g a) (ha : a ≤ 900000000000) (hl : ∀ z ∈ l, lo ≤ z ∧ z ≤ hi) (hn : l.length ≤ 65536) (h0 : 0 < l.length) {n H : Nat} (c : Nat) (hnl : n = l.length) (hH : H = w.heap.size) :
 Calls Try.prog 32 #[.pointer (some ⟨g, 0, none⟩), .slice (some ⟨H, 0, none⟩) n c] (w.alloc (.cells (l.map (Value.int .i64)).toArray e)) (DrawIn g a 2 lo hi w) := by
 subst hnl
 have hA := allAt_lit w g (l.map (Value.int .i64)) e hH h.lt (IntIn lo hi) (by
  intro u hu
  obtain ⟨s, hs, rfl⟩ := List.mem_map.1 hu
  exact ⟨s, rfl, hl s hs⟩)
 rw [List.length_map] at hA
 refine (among_any g a _ l.length c lo hi _ (h.ext (ext_alloc (ext_refl _) _)) ha hn h0 hA).mono ?_
 rintro e w1 ⟨s1, a1, rfl, hs1, hs2, ha1, hc1, hg1⟩
 exact ⟨s1, a1, rfl, hs1, hs2, ha1, hc1, (Gr.of_ext (ext_alloc (ext_refl _) _)).trans hg1⟩
theorem own_gr {w w' : World} {g B E s n : Nat} {v : Value} {xs : List Value} (h : w.ownsRow B E s v n xs) (hg : Gr g w w') (hB : g < B) : w'.ownsRow B E s v n xs := by
 refine h.kept hg ?_
 rcases e : v.ownBlock with _ | b
 · exact .inl rfl
 · refine .inr fun e2 => ?_
   injection e2 with e2
   have := (h.lt b e).1
   omega
/-- a row of the call's own grows: the cursor is untouched -/
theorem CurAt.grown {w w' : World} {g a : Nat} {row : Option Nat} (h : CurAt w g a) (hg : w.grownBy w' row) (hne : ∀ b, row = some b → g < b) : CurAt w' g a := by
 obtain ⟨A, n, c, s, h1, h2, h3⟩ := h
 refine ⟨A, n, c, s, (hg.block g h1.lt (fun e => by have := hne g e.symm; omega)).trans h1, h2, fun hn => ?_⟩
 obtain ⟨b, o, e, hlt, hc⟩ := h3 hn
 refine ⟨b, o, e, hlt, fun i hi => ?_⟩
 obtain ⟨z, hz, h01⟩ := hc i hi
 exact ⟨z, hg.cell hz (fun e => by have := hne b e.symm; omega), h01⟩
theorem Gr.grown {w w1 w2 : World} {g : Nat} {row : Option Nat} (h : Gr g w w1) (hg : w1.grownBy w2 row) (hne : ∀ b, row = some b → w.heap.size ≤ b) : Gr g w w2 :=
 ⟨hg.os.trans h.os, hg.tape.trans h.tape, hg.output.trans h.output, Nat.le_trans h.size hg.size, fun i hi hn => (hg.block i (Nat.lt_of_lt_of_le hi h.size) (fun e => by have := hne i e.symm; omega)).trans (h.block i hi hn)⟩
end Go.Proofs.Ytaghjaiaoajpiaa
namespace Go.Proofs.Ytaghjaiaoajpiaa
open Go.RowKit
set_option linter.unusedVariables false
set_option linter.unusedSimpArgs false
def str (l : List UInt8) : ByteArray := ⟨l.toArray⟩
def bl (s : ByteArray) : List UInt8 := s.data.toList
theorem str_bl (s : ByteArray) : str (bl s) = s := by simp [str, bl]
theorem bl_str (l : List UInt8) : bl (str l) = l := by simp [str, bl]
theorem bl_size (s : ByteArray) : (bl s).length = s.size := by unfold bl; rw [Array.length_toList]; rfl
theorem bl_append (a b : ByteArray) : bl (a ++ b) = bl a ++ bl b := by unfold bl; rw [ByteArray.data_append, Array.toList_append]
theorem bl_inj {a b : ByteArray} (h : bl a = bl b) : a = b := by rw [← str_bl a, ← str_bl b, h]
theorem bl_get {s : ByteArray} {k : Nat} (h : k < s.size) : (bl s)[k]? = some s[k] := by
 rw [List.getElem?_eq_getElem (by rw [bl_size]; exact h)]
 rfl
theorem bl_extract (s : ByteArray) (a b : Nat) : bl (s.extract a b) = ((bl s).take b).drop a := by
 simp [bl, List.extract_eq_take_drop, List.take_drop]
 by_cases h : a ≤ b
 · rw [show a + (b - a) = b from by omega]
 · rw [show a + (b - a) = a from by omega, List.drop_of_length_le (by simp; omega), List.drop_of_length_le (by simp; omega)]
def splitL (b : UInt8) : List UInt8 → List (List UInt8)
 | [] => [[]]
 | c :: l => if c = b then [] :: splitL b l else match splitL b l with | [] => [[c]] | h :: t => (c :: h) :: t
def glue (pre : List UInt8) (P : List (List UInt8)) : List (List UInt8) := match P with | [] => [pre] | h :: t => (pre ++ h) :: t
theorem splitL_ne (b : UInt8) (l : List UInt8) : splitL b l ≠ [] := by
 cases l with
 | nil => simp [splitL]
 | cons c l =>
   simp only [splitL]
   split
   · simp
   · split <;> simp
theorem splitL_miss {b c : UInt8} {l : List UInt8} (h : c ≠ b) : splitL b (c :: l) = glue [c] (splitL b l) := by
 simp only [splitL, if_neg h, glue]
 split <;> simp_all
theorem splitL_hit (b : UInt8) (l : List UInt8) : splitL b (b :: l) = [] :: splitL b l := by simp [splitL]
theorem glue_glue (p q : List UInt8) {P : List (List UInt8)} (h : P ≠ []) : glue p (glue q P) = glue (p ++ q) P := by
 cases P with
 | nil => exact absurd rfl h
 | cons x t => simp [glue]
theorem glue_nil {P : List (List UInt8)} (h : P ≠ []) : glue [] P = P := by
 cases P with
 | nil => exact absurd rfl h
 | cons x t => simp [glue]
theorem splitL_len (b : UInt8) (l : List UInt8) : (splitL b l).length = 1 + l.count b := by
 induction l with
 | nil => simp [splitL]
 | cons c l ih =>
   by_cases h : c = b
   · subst h; rw [splitL_hit]; simp [ih]; omega
   · rw [splitL_miss h]
     have : (glue [c] (splitL b l)).length = (splitL b l).length := by
      cases hs : splitL b l with
      | nil => exact absurd hs (splitL_ne b l)
      | cons x t => simp [glue]
     rw [this, ih, List.count_cons_of_ne h]
theorem splitL_one (b : UInt8) (l : List UInt8) : ((splitL b l).length = 1) ↔ b ∉ l := by
 rw [splitL_len, ← List.count_eq_zero]; omega
theorem splitL_head (b : UInt8) (l : List UInt8) : (splitL b l)[0]? = some (l.takeWhile (· != b)) := by
 induction l with
 | nil => simp [splitL]
 | cons c l ih =>
   by_cases h : c = b
   · subst h; rw [splitL_hit]; simp
   · rw [splitL_miss h]
     cases hs : splitL b l with
     | nil => exact absurd hs (splitL_ne b l)
     | cons x t =>
       rw [hs] at ih
       simp at ih
       simp [glue, h, ih]
/-- the state of the loop that splits: P has been cut off, 'pre' is what stands since the last cut -/
def splitAt (b : UInt8) (l : List UInt8) (P : List (List UInt8)) (f i : Nat) : Prop := f ≤ i ∧ i ≤ l.length ∧ P.length ≤ f ∧ P ++ glue ((l.take i).drop f) (splitL b (l.drop i)) = splitL b l
theorem splitAt_start (b : UInt8) (l : List UInt8) : splitAt b l [] 0 0 := ⟨Nat.le_refl _, Nat.zero_le _, by simp, by simp [glue_nil (splitL_ne b l)]⟩
theorem splitAt_hit {b : UInt8} {l : List UInt8} {P : List (List UInt8)} {f i : Nat} (h : splitAt b l P f i) (hc : l[i]? = some b) : splitAt b l (P ++ [(l.take i).drop f]) (i + 1) (i + 1) := by
 obtain ⟨h1, h2, h4, h3⟩ := h
 have hi : i < l.length := (List.getElem?_eq_some_iff.1 hc).1
 refine ⟨Nat.le_refl _, hi, by simp; omega, ?_⟩
 have hd : l.drop i = b :: l.drop (i + 1) := by
  rw [List.drop_eq_getElem_cons hi]
  have := List.getElem?_eq_some_iff.1 hc
  rw [this.2]
 rw [hd, splitL_hit] at h3
 have e : (l.take (i + 1)).drop (i + 1) = [] := by simp
 rw [e, glue_nil (splitL_ne _ _), ← h3]
 simp [glue]
theorem splitAt_miss {b c : UInt8} {l : List UInt8} {P : List (List UInt8)} {f i : Nat} (h : splitAt b l P f i) (hc : l[i]? = some c) (hne : c ≠ b) : splitAt b l P f (i + 1) := by
 obtain ⟨h1, h2, h4, h3⟩ := h
 have hi : i < l.length := (List.getElem?_eq_some_iff.1 hc).1
 refine ⟨by omega, hi, h4, ?_⟩
 have hd : l.drop i = c :: l.drop (i + 1) := by
  rw [List.drop_eq_getElem_cons hi]
  have := List.getElem?_eq_some_iff.1 hc
  rw [this.2]
 rw [hd, splitL_miss hne, glue_glue _ _ (splitL_ne _ _)] at h3
 rw [← h3]
 congr 2
 rw [List.take_add_one, hc, List.drop_append_of_le_length (by simp; omega)]
 rfl
theorem splitAt_end {b : UInt8} {l : List UInt8} {P : List (List UInt8)} {f i : Nat} (h : splitAt b l P f i) (hi : i = l.length) : P ++ [(l.take i).drop f] = splitL b l := by
 obtain ⟨_, _, _, h3⟩ := h
 subst hi
 rw [← h3]
 simp [splitL, glue]
def strsV (P : List (List UInt8)) : List Value := P.map fun x => Value.string (str x)
end Go.Proofs.Ytaghjaiaoajpiaa
namespace Go.Proofs.Ytaghjaiaoajpiaa
open Go.RowKit
set_option linter.unusedVariables false
set_option linter.unusedSimpArgs false
theorem info_str : (Try.prog.info? 9).map (fun i => (i.zero, i.size, i.bytes)) = some (some (.string ⟨#[]⟩), 1, 16) := by kernel_rfl
theorem cell_one_newS' (w : World) (v : Value) (e : TypeId) : ∀ j u, [v][j]? = some u → (w.alloc (.cells #[v] e)).cell? ((⟨w.heap.size, 0, none⟩ : Addr).add j) = some u := by
 intro j u hj
 match j, hj with
 | 0, hj => simp at hj; subst hj; rw [add_flat, World.cell?_alloc_at _ _ _ _ rfl]; rfl
 | j + 1, hj => simp at hj
theorem cell_one_at (w : World) (v : Value) (e : TypeId) {H : Nat} (hH : H = w.heap.size) : ∀ j u, [v][j]? = some u → (w.alloc (.cells #[v] e)).cell? ((⟨H, 0, none⟩ : Addr).add j) = some u := by
 subst hH; exact cell_one_newS' w v e
theorem str_extract (s : ByteArray) (f i : Nat) : s.extract f i = str (((bl s).take i).drop f) := by
 rw [← bl_extract, str_bl]
end Go.Proofs.Ytaghjaiaoajpiaa
namespace Go.Proofs.Ytaghjaiaoajpiaa
open Go.RowKit
set_option linter.unusedVariables false
set_option linter.unusedSimpArgs false
set_option maxHeartbeats 1000000 in
theorem vInts_same (A B : Option Addr) (n c d : Nat) (l : List Int) (w : World) (hn : n ≤ 1048576) (h : Reads w w.heap.size 1 A n (intsV l)) (h' : Reads w w.heap.size 1 B n (intsV l)) :
 Calls Try.prog 9 #[.slice A n c, .slice B n d] w fun e w' => e = .returned (.bool true) ∧ Below w.heap.size w w' := by
 have hl := ints_len h
 have H := Lib.hid h
 have H' := Lib.hid h'
 have HL := Lib.hid hl
 clear h h' hl
 go_enter Try.func9, Try.ntmps9
 go_wp2
 go_loopw [5] (fun i wr => ∃ k : Nat, k ≤ n ∧ i = .int .i64 k ∧ Hid (Below w.heap.size w wr)) (fun i _ => n - (intOf i).toNat)
 case atStart => exact ⟨0, Nat.zero_le _, rfl, Lib.hid (ext_refl _)⟩
 case round =>
  obtain ⟨k, hk, rfl, hbl⟩ := hrel
  by_cases hlt : k < n
  · obtain ⟨r, hr⟩ := list_split (l := l) (k := k) (by rw [HL.out]; exact hlt)
    obtain ⟨b, o, rfl, hb, c0⟩ := ints_at (H.out.ext hbl.out (Nat.le_refl _)) hr
    obtain ⟨b', o', rfl, hb', d0⟩ := ints_at (H'.out.ext hbl.out (Nat.le_refl _)) hr
    have s0 := hbl.out.size
    have hk1 : (k : Int) < (n : Int) := by omega
    have hk0 : (0 : Int) ≤ (k : Int) := by omega
    have hb2 : b < wr.heap.size := by omega
    have hb3 : b' < wr.heap.size := by omega
    clear hr
    go_wp2
    (refine wp_region_later (by kernel_rfl) (by kernel_rfl) ?_; (repeat (go_big_quiet_step (fail))); refine wpQuiet_nil ?_; intro w1 hw1; obtain ⟨⟨wl, hbL⟩, hw1'⟩ := hw1; simp only at hw1'; subst hw1'; obtain ⟨hcL, hfL⟩ := bcell hbL)
    have hbl2 := Lib.hid (ext_trans hbl.out hbL)
    clear hcL hfL hbL
    go_wp2
    go_roundw
    case rel => exact ⟨k + 1, by omega, by go_num, hbl2⟩
    case measure => simp [intOf]; omega
  · obtain rfl : k = n := by omega
    go_wp2
    go_ret
    exact ⟨rfl, hbl.out⟩
set_option maxHeartbeats 1000000 in
theorem vHas_no (A : Option Addr) (n c : Nat) (l : List Int) (x : Int) (w : World) (hn : n ≤ 1048576) (h : Reads w w.heap.size 1 A n (intsV l)) (hx : x ∉ l) :
 Calls Try.prog 11 #[.slice A n c, .int .i64 x] w fun e w' => e = .returned (.bool false) ∧ Below w.heap.size w w' := by
 have hl := ints_len h
 have H := Lib.hid h
 have HL := Lib.hid hl
 have HX := Lib.hid hx
 clear h hl hx
 go_enter Try.func11, Try.ntmps11
 go_wp2
 go_loopw [5] (fun i wr => ∃ k : Nat, k ≤ n ∧ i = .int .i64 k ∧ wr = w) (fun i _ => n - (intOf i).toNat)
 case atStart => exact ⟨0, Nat.zero_le _, rfl, rfl⟩
 case round =>
  obtain ⟨k, hk, rfl, rfl⟩ := hrel
  by_cases hlt : k < n
  · obtain ⟨r, hr⟩ := list_split (l := l) (k := k) (by rw [HL.out]; exact hlt)
    obtain ⟨b, o, rfl, hb, c0⟩ := ints_at H.out hr
    have hk1 : (k : Int) < (n : Int) := by omega
    have hk0 : (0 : Int) ≤ (k : Int) := by omega
    have hne : (r == x) = false := by
     rw [beq_eq_false_iff_ne]
     intro e
     exact HX.out (by rw [← e]; exact List.mem_of_getElem? hr)
    clear hr
    go_wp2
    go_roundw
    case rel => exact ⟨k + 1, by omega, by go_num, by first | rfl | trivial⟩
    case measure => simp [intOf]; omega
  · obtain rfl : k = n := by omega
    go_wp2
    go_ret
    exact ⟨rfl, ext_refl _⟩
end Go.Proofs.Ytaghjaiaoajpiaa
namespace Go.Proofs.Ytaghjaiaoajpiaa
open Go.RowKit
set_option linter.unusedVariables false
set_option linter.unusedSimpArgs false
theorem vBig_any (A : Option Addr) (n c : Nat) (w : World) : Calls Try.prog 5 #[.slice A n c] w fun e w' => e = .returned (.bool (decide ((65536 : Int) < n))) ∧ Below w.heap.size w w' := by
 go_enter Try.func5, Try.ntmps5
 go_wp2
 go_ret
 exact ⟨rfl, (by repeat (first | exact ext_refl _ | assumption | refine ext_alloc ?_ _ | refine ext_drew ?_ | refine ext_drewN ?_ _ | refine ext_set ?_ (by simp <;> omega) _ | refine ext_trans ?_ (by assumption)))⟩
end Go.Proofs.Ytaghjaiaoajpiaa
