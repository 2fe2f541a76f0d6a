/- The drawing of arguments: next, pick, one. -/
import Derived.Test.YtkcbgiegoadkbaaGreatVBase
import Derived.Laws.Bits64b
import Derived.Laws.DeepStrings4
import Derived.Laws.BytesArg
import Derived.StillTail
import Derived.StillTailTactics
namespace Go.Proofs.YtkcbgiegoadkbaaGreat
open Go.RowKit
set_option linter.unusedVariables false
set_option linter.unusedSimpArgs false
/-- the bytes that a cursor on block g goes over, elsewhere -/
def Src (w : World) (g : Nat) (A : Option Addr) (n : Nat) : Prop :=
 0 < n → ∃ b o, A = some ⟨b, o, none⟩ ∧ b < g ∧ ∀ i, i < n → ∃ z : Int, w.cell? ⟨b, o + i, none⟩ = some (.int .u8 z) ∧ 0 ≤ z ∧ z ≤ 255
/-- only block g is written, all else only grows -/
abbrev Gr (g : Nat) (w w' : World) : Prop := w.grownBy w' (some g)
theorem Gr.of_ext {g : Nat} {w w' : World} (hb : Below w.heap.size w w') : Gr g w w' := ⟨hb.os, hb.tape, hb.output, hb.size, fun k hk _ => hb.block k hk⟩
theorem Gr.trans {g : Nat} {w w1 w2 : World} (h : Gr g w w1) (k : Gr g w1 w2) : Gr g w w2 :=
 ⟨k.os.trans h.os, k.tape.trans h.tape, k.output.trans h.output, Nat.le_trans h.size k.size, fun i hi hne => (k.block i (Nat.lt_of_lt_of_le hi h.size) hne).trans (h.block i hi hne)⟩
theorem Gr.below {g : Nat} {W w w' : World} (hb : Below W.heap.size W w) (h : Gr g w w') (hg : W.heap.size ≤ g) : Below W.heap.size W w' :=
 hb.grown h hb.size (fun k hk => by injection hk with hk; omega)
theorem Gr.set {g : Nat} {w w' : World} (h : Gr g w w') (i : Nat) (u : Value) : Gr g w (w'.setCell ⟨g, i, none⟩ u) := only_setCell h (.inl rfl) u
theorem Src.gr {w w' : World} {g n : Nat} {A : Option Addr} (h : Src w g A n) (hg : Gr g w w') : Src w' g A n := fun hn => by
 obtain ⟨b, o, e, hlt, hc⟩ := h hn
 refine ⟨b, o, e, hlt, fun i hi => ?_⟩
 obtain ⟨z, hz, h01⟩ := hc i hi
 exact ⟨z, hg.cell hz (by intro e; injection e with e; exact absurd (show b = g from e) (by omega)), h01⟩
/-- block g is a cursor over bytes that lie elsewhere, at place a -/
def CurAt (w : World) (g a : Nat) : Prop :=
 ∃ (A : Option Addr) (n c : Nat) (s : Int), Blk w g 51 #[.slice A n c, .int .i64 a, .int .u64 s] ∧ n ≤ 1000000000 ∧ Src w g A n
theorem CurAt.lt {w : World} {g a : Nat} (h : CurAt w g a) : g < w.heap.size := by
 obtain ⟨A, n, c, s, h1, _⟩ := h
 exact h1.lt
theorem CurAt.ext {w w' : World} {g a : Nat} (h : CurAt w g a) (hb : Below w.heap.size w w') : CurAt w' g a := by
 obtain ⟨A, n, c, s, h1, h2, h3⟩ := h
 exact ⟨A, n, c, s, h1.ext hb, h2, h3.gr (Gr.of_ext hb)⟩
/-- a store into a later block -/
theorem CurAt.far {w : World} {g a : Nat} (h : CurAt w g a) {p : Addr} (hp : g < p.block) (u : Value) : CurAt (w.setCell p u) g a := by
 obtain ⟨A, n, c, s, h1, h2, h3⟩ := h
 refine ⟨A, n, c, s, (Below.heap_setCell w p u g (by omega)).trans h1, h2, fun hn => ?_⟩
 obtain ⟨b, o, e, hlt, hc⟩ := h3 hn
 refine ⟨b, o, e, hlt, fun i hi => ?_⟩
 obtain ⟨z, hz, h01⟩ := hc i hi
 exact ⟨z, (World.cell?_setCell_far w p ⟨b, o + i, none⟩ u (show p.block ≠ b by omega)).trans hz, h01⟩
theorem Gr.setNew {g : Nat} {w w' : World} (h : Gr g w w') {p : Addr} (hp : w.heap.size ≤ p.block) (u : Value) : Gr g w (w'.setCell p u) := only_setCell h (.inr hp) u
/-- a number from 0 to m is drawn; the cursor goes on by K places at most -/
def DrawInt (g a K : Nat) (m : Int) (w : World) (e : Ending) (w' : World) : Prop := ∃ (z : Int) (a' : Nat), e = .returned (.int .i64 z) ∧ 0 ≤ z ∧ z ≤ m ∧ a' ≤ a + K ∧ CurAt w' g a' ∧ Gr g w w'
theorem seed_byte (S : Int) : 0 ≤ wrap64 (bits .and .u64 (IntKind.u64.wrap S / 1099511627776) 255) ∧ wrap64 (bits .and .u64 (IntKind.u64.wrap S / 1099511627776) 255) ≤ 255 := by
 have hw : IntKind.u64.wrap S = S % 18446744073709551616 := by simp [IntKind.wrap, IntKind.bits, IntKind.signed]
 obtain ⟨m, hm⟩ := Int.eq_ofNat_of_zero_le (a := IntKind.u64.wrap S / 1099511627776) (by omega)
 rw [hm, show (255 : Int) = ((255 : Nat) : Int) from rfl, bits_and_u64_nat m 255 (by omega) (by omega)]
 have h1 : m &&& 255 ≤ 255 := Nat.and_le_right
 rw [IntWalk.wrap64_in _ ⟨by omega, by omega⟩]
 omega
set_option maxHeartbeats 1000000 in
theorem next_any (g a : Nat) (w : World) (h : CurAt w g a) (ha : a ≤ 1000000000000) :
 Calls Tryz.prog 39 #[.pointer (some ⟨g, 0, none⟩)] w (DrawInt g a 1 255 w) := by
 obtain ⟨A, n, c, s, h1, h2, h3⟩ := h
 have hlt := h1.lt
 have c0 := h1.cell 0
 have c1 := h1.cell 1
 have c2 := h1.cell 2
 obtain ⟨f0, f1, f2⟩ := h1.z3
 simp at c0 c1 c2
 by_cases hin : a < n
 · obtain ⟨b, o, rfl, hbg, hc⟩ := h3 (by omega)
   have hne : b ≠ g := by omega
   have hbl : b < w.heap.size := by omega
   obtain ⟨z, hz, hz0, hz1⟩ := hc a hin
   have H1 := Lib.hid h1
   have H3 := Lib.hid h3
   clear hc h1 h3
   go_enter Tryz.func39, Tryz.ntmps39
   go_wp2
   (refine wp_region_later (by kernel_rfl) (by kernel_rfl) ?_; (repeat (go_big_quiet_step (fail))); refine wpQuiet_nil ?_; intro w1 hw1; obtain ⟨⟨wl, hbL⟩, hw1'⟩ := hw1; simp only at hw1'; subst hw1'; obtain ⟨hcL, hfL⟩ := bcell hbL)
   have zg1 : g < w1.heap.size := Nat.lt_of_lt_of_le hlt hbL.size
   have zb1 : b < w1.heap.size := Nat.lt_of_lt_of_le hbl hbL.size
   have HB1 := Lib.hid hbL
   clear hbL
   go_wp2
   (refine wp_region_later (by kernel_rfl) (by kernel_rfl) ?_; (repeat (go_big_quiet_step (fail))); refine wpQuiet_nil ?_; intro w1 hw1; obtain ⟨⟨wl, hbL⟩, hw1'⟩ := hw1; simp only at hw1'; subst hw1'; obtain ⟨hcL, hfL⟩ := bcell hbL)
   have zg2 := Nat.lt_of_lt_of_le zg1 hbL.size
   have HB2 := Lib.hid hbL
   clear hbL
   go_wp2
   (refine wp_region_later (by kernel_rfl) (by kernel_rfl) ?_; (repeat (go_big_quiet_step (fail))); refine wpQuiet_nil ?_; intro w1 hw1; obtain ⟨⟨wl, hbL⟩, hw1'⟩ := hw1; simp only at hw1'; subst hw1'; obtain ⟨hcL, hfL⟩ := bcell hbL)
   have HB3 := Lib.hid hbL
   clear hbL
   go_wp2
   go_ret
   refine ⟨z, a + 1, rfl, hz0, hz1, Nat.le_refl _, ?_⟩
   have g1 := ((((Gr.of_ext (g := g) HB1.out).trans (Gr.of_ext HB2.out)).set 1 _).set 2 _).trans (Gr.of_ext HB3.out)
   exact ⟨⟨_, _, _, _, ((((H1.out.ext HB1.out).ext HB2.out).set_ 1 _).set_ 2 _).ext HB3.out, h2, H3.out.gr g1⟩, g1⟩
 · have H1 := Lib.hid h1
   have H3 := Lib.hid h3
   clear h1 h3
   go_enter Tryz.func39, Tryz.ntmps39
   go_wp2
   (refine wp_region_later (by kernel_rfl) (by kernel_rfl) ?_; (repeat (go_big_quiet_step (fail))); refine wpQuiet_nil ?_; intro w1 hw1; obtain ⟨⟨wl, hbL⟩, hw1'⟩ := hw1; simp only at hw1'; subst hw1'; obtain ⟨hcL, hfL⟩ := bcell hbL)
   have zg1 : g < w1.heap.size := Nat.lt_of_lt_of_le hlt hbL.size
   have HB1 := Lib.hid hbL
   clear hbL
   go_wp2
   (refine wp_region_later (by kernel_rfl) (by kernel_rfl) ?_; (repeat (go_big_quiet_step (fail))); refine wpQuiet_nil ?_; intro w1 hw1; obtain ⟨⟨wl, hbL⟩, hw1'⟩ := hw1; simp only at hw1'; subst hw1'; obtain ⟨hcL, hfL⟩ := bcell hbL)
   have HB3 := Lib.hid hbL
   clear hbL
   go_wp2
   go_ret
   obtain ⟨q0, q1⟩ := seed_byte (IntKind.u64.wrap (IntKind.u64.wrap (s * 6364136223846793005)) + 100606)
   refine ⟨_, a + 1, rfl, q0, q1, Nat.le_refl _, ?_⟩
   have g1 := (((Gr.of_ext (g := g) HB1.out).set 1 _).set 2 _).trans (Gr.of_ext HB3.out)
   exact ⟨⟨_, _, _, _, (((H1.out.ext HB1.out).set_ 1 _).set_ 2 _).ext HB3.out, h2, H3.out.gr g1⟩, g1⟩
theorem drawInt_chain {g a K a' K' : Nat} {m : Int} {w w1 : World} (h : Gr g w w1) (ha : a' ≤ a + K) {e : Ending} {w' : World} (hd : DrawInt g a' K' m w1 e w') : DrawInt g a (K + K') m w e w' := by
 obtain ⟨z, a2, he, h0, h1, h2, h3, h4⟩ := hd
 exact ⟨z, a2, he, h0, h1, by omega, h3, h.trans h4⟩
set_option maxHeartbeats 1000000 in
theorem pick_any (g a n : Nat) (w : World) (h : CurAt w g a) (ha : a ≤ 900000000000) (hn : n ≤ 65536) (hn1 : 1 ≤ n) :
 Calls Tryz.prog 17 #[.pointer (some ⟨g, 0, none⟩), .int .i64 n] w (DrawInt g a 2 ((n : Int) - 1) w) := by
 by_cases h1 : n ≤ 1
 · go_enter Tryz.func17, Tryz.ntmps17
   go_wp2
   go_ret
   exact ⟨0, a, rfl, by omega, by omega, by omega, h, Gr.of_ext (ext_refl _)⟩
 · by_cases h2 : (200 : Int) < n
   · go_enter Tryz.func17, Tryz.ntmps17
     go_wp2_with fail
     refine (next_any g a _ h (by omega)).mono ?_
     rintro e w1 ⟨z1, a1, rfl, z10, z11, ha1, hc1, hg1⟩
     go_wp2_with fail
     refine (next_any g a1 _ hc1 (by omega)).mono ?_
     rintro e w2 ⟨z2, a2, rfl, z20, z21, ha2, hc2, hg2⟩
     go_wp2
     go_ret
     refine ⟨(z1 * 256 + z2) % n, a2, by go_num, Int.emod_nonneg _ (by omega), ?_, by omega, hc2, hg1.trans hg2⟩
     have := Int.emod_lt_of_pos (z1 * 256 + z2) (b := (n : Int)) (by omega)
     omega
   · go_enter Tryz.func17, Tryz.ntmps17
     go_wp2_with fail
     refine (next_any g a _ h (by omega)).mono ?_
     rintro e w1 ⟨z1, a1, rfl, z10, z11, ha1, hc1, hg1⟩
     go_wp2
     go_ret
     refine ⟨z1 % n, a1, by go_num, Int.emod_nonneg _ (by omega), ?_, by omega, hc1, hg1⟩
     have := Int.emod_lt_of_pos z1 (b := (n : Int)) (by omega)
     omega
/-- a yes or no is drawn -/
def DrawBool (g a K : Nat) (w : World) (e : Ending) (w' : World) : Prop := ∃ (b : Bool) (a' : Nat), e = .returned (.bool b) ∧ a' ≤ a + K ∧ CurAt w' g a' ∧ Gr g w w'
theorem one_any (g a n : Nat) (w : World) (h : CurAt w g a) (ha : a ≤ 900000000000) (hn : n ≤ 65536) (hn1 : 1 ≤ n) :
 Calls Tryz.prog 20 #[.pointer (some ⟨g, 0, none⟩), .int .i64 n] w (DrawBool g a 2 w) := by
 go_enter Tryz.func20, Tryz.ntmps20
 go_wp2_with fail
 refine (pick_any g a n _ h ha hn (by omega)).mono ?_
 rintro e w1 ⟨z1, a1, rfl, z10, z11, ha1, hc1, hg1⟩
 go_wp2
 go_ret
 exact ⟨_, a1, rfl, ha1, hc1, hg1⟩
/-- a slice of n cells each of which is a P -/
def AllAt (w : World) (g : Nat) (A : Option Addr) (n : Nat) (P : Value → Prop) : Prop := ∃ b o, A = some ⟨b, o, none⟩ ∧ b ≠ g ∧ ∀ i, i < n → ∃ u, w.cell? ⟨b, o + i, none⟩ = some u ∧ P u
theorem AllAt.gr {w w' : World} {g n : Nat} {A : Option Addr} {P : Value → Prop} (h : AllAt w g A n P) (hg : Gr g w w') : AllAt w' g A n P := by
 obtain ⟨b, o, e, hne, hc⟩ := h
 refine ⟨b, o, e, hne, fun i hi => ?_⟩
 obtain ⟨z, hz, h01⟩ := hc i hi
 exact ⟨z, hg.cell hz (by intro e; injection e with e; exact hne e), h01⟩
theorem allAt_lit (w : World) (g : Nat) (cs : List Value) (e : TypeId) {H : Nat} (hH : H = w.heap.size) (hg : g < w.heap.size) (P : Value → Prop) (hP : ∀ u ∈ cs, P u) : AllAt (w.alloc (.cells cs.toArray e)) g (some ⟨H, 0, none⟩) cs.length P := by
 subst hH
 refine ⟨_, _, rfl, by omega, fun i hi => ⟨cs[i], ?_, hP _ (List.getElem_mem hi)⟩⟩
 rw [World.cell?_alloc_at _ _ _ _ rfl]
 simp [hi]
def StrLe (M : Nat) (u : Value) : Prop := ∃ s : ByteArray, u = .string s ∧ s.size ≤ M
def IntIn (lo hi : Int) (u : Value) : Prop := ∃ z : Int, u = .int .i64 z ∧ lo ≤ z ∧ z ≤ hi
/-- a text no longer than M is drawn -/
def DrawStr (g a K M : Nat) (w : World) (e : Ending) (w' : World) : Prop := ∃ (s : ByteArray) (a' : Nat), e = .returned (.string s) ∧ s.size ≤ M ∧ a' ≤ a + K ∧ CurAt w' g a' ∧ Gr g w w'
/-- a number from lo to hi is drawn -/
def DrawIn (g a K : Nat) (lo hi : Int) (w : World) (e : Ending) (w' : World) : Prop := ∃ (z : Int) (a' : Nat), e = .returned (.int .i64 z) ∧ lo ≤ z ∧ z ≤ hi ∧ a' ≤ a + K ∧ CurAt w' g a' ∧ Gr g w w'
theorem among_any (g a : Nat) (A : Option Addr) (n c : Nat) (lo hi : Int) (w : World) (h : CurAt w g a) (ha : a ≤ 900000000000) (hn : n ≤ 65536) (hpos : 0 < n) (hl : AllAt w g A n (IntIn lo hi)) :
 Calls Tryz.prog 16 #[.pointer (some ⟨g, 0, none⟩), .slice A n c] w (DrawIn g a 2 lo hi w) := by
 go_enter Tryz.func16, Tryz.ntmps16
 go_wp2_with fail
 refine (pick_any g a n _ h ha hn (by omega)).mono ?_
 rintro e w1 ⟨z1, a1, rfl, z10, z11, ha1, hc1, hg1⟩
 obtain ⟨k, rfl⟩ := Int.eq_ofNat_of_zero_le z10
 obtain ⟨b, o, rfl, hne, hc⟩ := hl.gr hg1
 obtain ⟨u, hu, x, rfl, hx0, hx1⟩ := hc k (by omega)
 clear hc hl
 have hk : (k : Int) < n := by omega
 go_wp2
 go_ret
 exact ⟨x, a1, rfl, hx0, hx1, ha1, hc1, hg1⟩
end Go.Proofs.YtkcbgiegoadkbaaGreat
namespace Go.Proofs.YtkcbgiegoadkbaaGreat
open Go.RowKit
set_option linter.unusedVariables false
set_option linter.unusedSimpArgs false
/-- a slice of bytes, below block B -/
def Code (w : World) (B : Nat) (A : Option Addr) (n : Nat) : Prop :=
 0 < n → ∃ b o, A = some ⟨b, o, none⟩ ∧ b < B ∧ ∀ i, i < n → ∃ z : Int, w.cell? ⟨b, o + i, none⟩ = some (.int .u8 z) ∧ 0 ≤ z ∧ z ≤ 255
theorem Code.below {w w' : World} {B n : Nat} {A : Option Addr} (h : Code w B A n) (hb : Below B w w') : Code w' B A n := fun hn => by
 obtain ⟨b, o, e, hlt, hc⟩ := h hn
 refine ⟨b, o, e, hlt, fun i hi => ?_⟩
 obtain ⟨z, hz, h01⟩ := hc i hi
 exact ⟨z, (hb.cell (p := ⟨b, o + i, none⟩) hlt).trans hz, h01⟩
theorem Code.more {w : World} {B B' n : Nat} {A : Option Addr} (h : Code w B A n) (hB : B ≤ B') : Code w B' A n := fun hn => by
 obtain ⟨b, o, e, hlt, hc⟩ := h hn
 exact ⟨b, o, e, Nat.lt_of_lt_of_le hlt hB, hc⟩
theorem Blk.new (w : World) (cs : Array Value) (t : TypeId) : Blk (w.alloc (.cells cs t)) w.heap.size t cs := by
 unfold Blk
 simp [World.alloc, -World.alloc_eq]
theorem Code.cur {w : World} {n : Nat} {A : Option Addr} (h : Code w w.heap.size A n) (hn : n ≤ 1000000000) (c : Nat) : CurAt (w.alloc (.cells #[.slice A n c, .int .i64 0, .int .u64 0] 51)) w.heap.size 0 := by
 refine ⟨A, n, c, 0, Blk.new w _ _, hn, fun h0 => ?_⟩
 obtain ⟨b, o, e, hlt, hc⟩ := h h0
 refine ⟨b, o, e, hlt, fun i hi => ?_⟩
 obtain ⟨z, hz, h01⟩ := hc i hi
 exact ⟨z, ext_cell (ext_alloc (ext_refl _) _) hz, h01⟩
/-- the same where a block of the call's own lies below it -/
theorem Code.cur1 {w : World} {n : Nat} {A : Option Addr} (h : Code w w.heap.size A n) (hn : n ≤ 1000000000) (c : Nat) (o : Obj) : CurAt ((w.alloc o).alloc (.cells #[.slice A n c, .int .i64 0, .int .u64 0] 51)) (w.heap.size + 1) 0 := by
 have := Code.cur ((h.below (ext_alloc (ext_refl _) o)).more (B' := (w.alloc o).heap.size) (by simp)) hn c
 simpa using this
end Go.Proofs.YtkcbgiegoadkbaaGreat
namespace Go.Proofs.YtkcbgiegoadkbaaGreat
open Go.RowKit
set_option linter.unusedVariables false
set_option linter.unusedSimpArgs false
def unl (listed : Array Bool) : Nat := listed.toList.count false
theorem unl_zero {md : Region.Mode} {ops : Array Oper} {listed : Array Bool} (h : unl listed = 0) : Region.ready md ops listed = [] := by
 rcases hr : Region.ready md ops listed with _ | ⟨i, rs⟩
 · rfl
 · have hi : i ∈ Region.ready md ops listed := by rw [hr]; simp
   obtain ⟨h0, _⟩ := mem_ready.1 hi
   have hm : false ∈ listed.toList := by
    by_cases hlt : i < listed.size
    · have : listed[i] = false := by simpa [hlt] using h0
      rw [← this]
      simp
    · simp [Array.getElem?_eq_none (Nat.le_of_not_lt hlt)] at h0
   have := List.count_pos_iff.2 hm
   unfold unl at h
   omega
theorem unl_set {listed : Array Bool} {i : Nat} (h : listed.getD i true = false) : unl (listed.setIfInBounds i true) + 1 = unl listed := by
 by_cases hlt : i < listed.size
 · have hf : listed[i] = false := by simpa [hlt] using h
   unfold unl
   rw [Array.toList_setIfInBounds, List.count_set (by simpa using hlt)]
   have hp : 0 < List.count false listed.toList := List.count_pos_iff.2 (by rw [← hf]; simp)
   have e1 : (listed.toList[i]'(by simpa using hlt) == false) = true := by simp [hf]
   rw [if_pos e1, if_neg (by decide)]
   omega
 · simp [Array.getElem?_eq_none (Nat.le_of_not_lt hlt)] at h
theorem wpAny_inv {P : Program} {ops : Array Oper} {Q : Exit → Act → World → Prop} {md : Region.Mode} {I : Array Bool → Act → World → Prop}
 (hstep : ∀ listed a w i, I listed a w → i ∈ Region.ready md ops listed → wpOp P ops Q i (I (listed.setIfInBounds i true)) a w)
 (hend : ∀ listed a w, I listed a w → Region.ready md ops listed = [] → Q .normal a w) :
 ∀ (fuel : Nat) (listed : Array Bool) (a : Act) (w : World), I listed a w → unl listed ≤ fuel → wpAny P md ops Q fuel listed a w := by
 intro fuel
 induction fuel with
 | zero =>
   intro listed a w hI h0
   have hr := unl_zero (md := md) (ops := ops) (listed := listed) (by omega)
   exact ⟨hr, hend _ _ _ hI hr⟩
 | succ f ih =>
   intro listed a w hI hf
   refine ⟨fun hr => hend _ _ _ hI hr, fun i hi => ?_⟩
   have hu := unl_set (mem_ready.1 hi).1
   exact wpOp_mono (fun a' w' h => ih _ a' w' h (by omega)) (hstep _ _ _ _ hI hi)
def lst (listed : Array Bool) (j : Nat) : Prop := listed.getD j false = true
theorem lst_rep {n j : Nat} : ¬ lst (Array.replicate n false) j := by
 unfold lst
 simp only [Array.getD_eq_getD_getElem?, Array.getElem?_replicate]
 split <;> simp
theorem lst_set {listed : Array Bool} {i j : Nat} : lst (listed.setIfInBounds i true) j ↔ (j = i ∧ i < listed.size) ∨ lst listed j := by
 unfold lst
 by_cases e : i = j
 · subst e
   by_cases hlt : i < listed.size
   · simp [hlt]
   · simp [hlt]
 · rw [getD_set_ne false e]
   simp [Ne.symm e]
theorem lst_no {listed : Array Bool} {i : Nat} (h : listed.getD i true = false) : ¬ lst listed i ∧ i < listed.size := by
 by_cases hlt : i < listed.size
 · refine ⟨?_, hlt⟩
   unfold lst
   simp [hlt] at h ⊢
   exact h
 · simp [Array.getElem?_eq_none (Nat.le_of_not_lt hlt)] at h
def later (ops : Array Oper) : Bool := (List.range ops.size).all fun j => match ops[j]? with | none => true | some o => o.after.all fun e => decide (e.on < j)
theorem all_listed {md : Region.Mode} {ops : Array Oper} {listed : Array Bool} (hl : later ops = true) (hsz : listed.size = ops.size) (hr : Region.ready md ops listed = []) : ∀ j, j < ops.size → lst listed j := by
 intro j
 induction j using Nat.strongRecOn with
 | _ j ih =>
   intro hj
   rcases hb : listed.getD j true with _ | _
   · exfalso
     have hm : j ∈ Region.ready md ops listed := by
      refine mem_ready.2 ⟨hb, ops[j], by simp [hj], fun e he _ => ?_⟩
      have h1 := List.all_eq_true.1 hl j (by simpa using hj)
      simp only [Array.getElem?_eq_getElem hj, Array.all_eq_true_iff_forall_mem, decide_eq_true_eq] at h1
      have h2 := h1 e he
      exact ih e.on h2 (by omega)
     rw [hr] at hm
     cases hm
   · unfold lst
     have : j < listed.size := by omega
     simp [this] at hb ⊢
     exact hb
/-- the frame a, the n slots from d on being vs -/
def slots (a : Act) (d : Nat) (vs : Nat → Value) : Nat → Act
 | 0 => a
 | n + 1 => (slots a d vs n).put (some (d + n)) (vs n)
def upd (vs : Nat → Value) (i : Nat) (v : Value) : Nat → Value := fun k => if k = i then v else vs k
theorem upd_same (vs : Nat → Value) (i : Nat) (v : Value) : upd vs i v i = v := by simp [upd]
theorem upd_ne (vs : Nat → Value) {i k : Nat} (v : Value) (h : k ≠ i) : upd vs i v k = vs k := by simp [upd, h]
def closed (ops : Array Oper) (listed : Array Bool) : Prop := ∀ j o, ops[j]? = some o → lst listed j → ∀ e ∈ o.after, Region.binds .any e = true → lst listed e.on
theorem slots_size (a : Act) (d : Nat) (vs : Nat → Value) : ∀ n, (slots a d vs n).tmps.size = a.tmps.size := by
 intro n
 induction n with
 | zero => rfl
 | succ n ih => simp only [slots, Act.put, Array.size_setIfInBounds]; exact ih
theorem slots_congr (a : Act) (d : Nat) {vs us : Nat → Value} : ∀ n, (∀ k, k < n → vs k = us k) → slots a d vs n = slots a d us n := by
 intro n
 induction n with
 | zero => intro _; rfl
 | succ n ih => intro h; simp only [slots]; rw [ih (fun k hk => h k (by omega)), h n (by omega)]
theorem slots_put (a : Act) (d : Nat) (vs : Nat → Value) {i : Nat} (v : Value) : ∀ n, i < n → (slots a d vs n).put (some (d + i)) v = slots a d (upd vs i v) n := by
 intro n
 induction n with
 | zero => intro h; omega
 | succ n ih =>
   intro h
   simp only [slots]
   by_cases e : i = n
   · subst e
     rw [upd_same, slots_congr a d (vs := upd vs i v) (us := vs) i (fun k hk => upd_ne _ _ (by omega))]
     simp [Act.put]
   · rw [Act.put_comm _ _ _ (by intro x hx; injection hx with hx; subst hx; intro e2; injection e2 with e2; omega), ih (by omega), upd_ne _ _ (by omega)]
theorem slots_at (a : Act) (d : Nat) (vs : Nat → Value) {k : Nat} : ∀ n, k < n → d + n ≤ a.tmps.size → (slots a d vs n).eval (.tmp (d + k)) = vs k := by
 intro n
 induction n with
 | zero => intro h; omega
 | succ n ih =>
   intro h hs
   simp only [slots]
   by_cases e : k = n
   · subst e
     have := slots_size a d vs k
     simp [Act.eval, Act.put]
     intro hx
     omega
   · rw [Act.eval_put (by intro x hx; injection hx with hx; subst hx; intro e2; injection e2 with e2; have e3 : d + k = d + n := e2; omega)]
     exact ih (by omega) (by omega)
theorem slots_out (a : Act) (d : Nat) (vs : Nat → Value) {t : Nat} (ht : t < d) : ∀ n, (slots a d vs n).eval (.tmp t) = a.eval (.tmp t) := by
 intro n
 induction n with
 | zero => rfl
 | succ n ih =>
   simp only [slots]
   rw [Act.eval_put (by intro x hx; injection hx with hx; subst hx; intro e2; injection e2 with e2; have e3 : t = d + n := e2; omega)]
   exact ih
theorem wp_region_slots {P : Program} {id : Nat} {ops : Array Oper} {Q : Exit → Act → World → Prop} {a : Act} {w : World} (hm : P.follows .mixedOrders = true) (hlat : later ops = true) (d n : Nat) (vs0 : Nat → Value) (ha : slots a d vs0 n = a) (E : Act → Prop) (hE : E a)
 (J : Array Bool → (Nat → Value) → World → Prop) (h0 : J (Array.replicate ops.size false) vs0 w.drew)
 (hstep : ∀ a0 listed vs w i o, E a0 → J listed vs w → closed ops listed → i < listed.size → ¬ lst listed i → ops[i]? = some o → (∀ e ∈ o.after, Region.binds .any e = true → lst listed e.on) →
  wpOp P ops Q i (fun a' w' => ∃ vs', a' = slots a0 d vs' n ∧ J (listed.setIfInBounds i true) vs' w') (slots a0 d vs n) w)
 (hend : ∀ listed vs w, J listed vs w → (∀ j, j < ops.size → lst listed j) → Q .normal (slots a d vs n) w) : (Code.region id ops true).wp P Q a w := by
 refine wp_region_any hm ?_
 refine wpAny_inv (I := fun listed a' w' => listed.size = ops.size ∧ closed ops listed ∧ ∃ vs, a' = slots a d vs n ∧ J listed vs w') ?_ ?_ _ _ _ _ ⟨by simp, ?_, vs0, ha.symm, h0⟩ ?_
 · rintro listed _ w' i ⟨hsz, hcl, vs, rfl, hJ⟩ hi
   obtain ⟨h1, o, ho, h2⟩ := mem_ready.1 hi
   obtain ⟨h3, h4⟩ := lst_no h1
   refine wpOp_mono ?_ (hstep a _ _ _ _ o hE hJ hcl h4 h3 ho h2)
   rintro a' w'' ⟨vs', e, hJ'⟩
   refine ⟨by simpa using hsz, ?_, vs', e, hJ'⟩
   intro j oj hoj hj e he hb
   rw [lst_set] at hj ⊢
   rcases hj with ⟨rfl, _⟩ | hj
   · rw [ho] at hoj
     injection hoj with hoj
     subst hoj
     exact .inr (h2 e he hb)
   · exact .inr (hcl j oj hoj hj e he hb)
 · rintro listed _ w' ⟨hsz, _, vs, rfl, hJ⟩ hr
   exact hend _ _ _ hJ (all_listed hlat hsz hr)
 · intro j o _ hj
   exact absurd hj lst_rep
 · simp [unl]
theorem wpOp_of {P : Program} {ops : Array Oper} {Q : Exit → Act → World → Prop} {i : Nat} {K' : Act → World → Prop} {a : Act} {w : World} {o : Oper} (ho : ops[i]? = some o)
 (h : ∀ K : Act → World → Prop, (∀ a w, K' a w → K a w) → if Region.wanted o (yielded ops a.tmps) = true then Oper.wp P o a w K Q else K (a.put o.dst undef) w) : wpOp P ops Q i K' a w := by
 have := h K' (fun _ _ h => h)
 unfold wpOp
 simp only [ho]
 by_cases hw : Region.wanted o (yielded ops a.tmps) = true
 · rw [if_pos hw] at this ⊢
   exact .inl this
 · rw [if_neg hw] at this ⊢
   exact this
theorem wpOp_slots {P : Program} {ops : Array Oper} {Q : Exit → Act → World → Prop} {i d n : Nat} {a0 : Act} {vs : Nat → Value} {w : World} {o : Oper} {J' : (Nat → Value) → World → Prop} (ho : ops[i]? = some o) (hi : i < n) (hsz : d + n ≤ a0.tmps.size)
 (h : ∀ (b : Act) (K : Act → World → Prop), (∀ t, t < d → b.tmps[t]?.getD undef = a0.eval (.tmp t)) → (∀ k, k < n → b.tmps[d + k]?.getD undef = vs k) → (∀ v w', J' (upd vs i v) w' → K (b.put (some (d + i)) v) w') → (∀ w', J' vs w' → K b w') →
  if Region.wanted o (yielded ops b.tmps) = true then Oper.wp P o b w K Q else K (b.put o.dst undef) w) :
 wpOp P ops Q i (fun a' w' => ∃ vs', a' = slots a0 d vs' n ∧ J' vs' w') (slots a0 d vs n) w :=
 wpOp_of ho fun K hK => h _ K (fun t ht => (Array.getD_eq_getD_getElem? ..).symm.trans (slots_out a0 d vs ht n)) (fun k hk => (Array.getD_eq_getD_getElem? ..).symm.trans (slots_at a0 d vs n hk hsz)) (fun v w' hJ => hK _ _ ⟨upd vs i v, slots_put a0 d vs v n hi, hJ⟩) (fun w' hJ => hK _ _ ⟨vs, rfl, hJ⟩)
theorem wpOp_last {P : Program} {ops : Array Oper} {Q : Exit → Act → World → Prop} {i d n : Nat} {a0 : Act} {vs : Nat → Value} {w : World} {o : Oper} {J' : (Nat → Value) → World → Prop} (ho : ops[i]? = some o) (hsz : d + n ≤ a0.tmps.size)
 (h : ∀ (b : Act) (K : Act → World → Prop), (∀ t, t < d → b.tmps[t]?.getD undef = a0.eval (.tmp t)) → (∀ k, k < n → b.tmps[d + k]?.getD undef = vs k) → (∀ w', J' vs w' → K b w') →
  if Region.wanted o (yielded ops b.tmps) = true then Oper.wp P o b w K Q else K (b.put o.dst undef) w) :
 wpOp P ops Q i (fun a' w' => ∃ vs', a' = slots a0 d vs' n ∧ J' vs' w') (slots a0 d vs n) w :=
 wpOp_of ho fun K hK => h _ K (fun t ht => (Array.getD_eq_getD_getElem? ..).symm.trans (slots_out a0 d vs ht n)) (fun k hk => (Array.getD_eq_getD_getElem? ..).symm.trans (slots_at a0 d vs n hk hsz)) (fun w' hJ => hK _ _ ⟨vs, rfl, hJ⟩)
end Go.Proofs.YtkcbgiegoadkbaaGreat
namespace Go.Proofs.YtkcbgiegoadkbaaGreat
open Go.RowKit
set_option linter.unusedVariables false
set_option linter.unusedSimpArgs false
theorem Blk.gr {w w' : World} {g L : Nat} {t : TypeId} {cs : Array Value} (h : Blk w L t cs) (hg : Gr g w w') (hne : L ≠ g) : Blk w' L t cs := (hg.block L h.lt (by intro e; injection e with e; exact hne e)).trans h
theorem Blk.far {w : World} {L : Nat} {t : TypeId} {cs : Array Value} (h : Blk w L t cs) {p : Addr} (hne : L ≠ p.block) (u : Value) : Blk (w.setCell p u) L t cs := (Below.heap_setCell w p u L hne).trans h
theorem allAt_ext {w w' : World} {g n : Nat} {A : Option Addr} {P : Value → Prop} (h : AllAt w g A n P) (hb : Below w.heap.size w w') : AllAt w' g A n P := h.gr (Gr.of_ext hb)
theorem among_lit (g a : Nat) (lo hi : Int) (l : List Int) (e : TypeId) (w : World) (h : CurAt w g a) (ha : a ≤ 900000000000) (hl : ∀ z ∈ l, lo ≤ z ∧ z ≤ hi) (hn : l.length ≤ 65536) (h0 : 0 < l.length) {n H : Nat} (c : Nat) (hnl : n = l.length) (hH : H = w.heap.size) :
 Calls Tryz.prog 16 #[.pointer (some ⟨g, 0, none⟩), .slice (some ⟨H, 0, none⟩) n c] (w.alloc (.cells (l.map (Value.int .i64)).toArray e)) (DrawIn g a 2 lo hi w) := by
 subst hnl
 have hA := allAt_lit w g (l.map (Value.int .i64)) e hH h.lt (IntIn lo hi) (by
  intro u hu
  obtain ⟨s, hs, rfl⟩ := List.mem_map.1 hu
  exact ⟨s, rfl, hl s hs⟩)
 rw [List.length_map] at hA
 refine (among_any g a _ l.length c lo hi _ (h.ext (ext_alloc (ext_refl _) _)) ha hn h0 hA).mono ?_
 rintro e w1 ⟨s1, a1, rfl, hs1, hs2, ha1, hc1, hg1⟩
 exact ⟨s1, a1, rfl, hs1, hs2, ha1, hc1, (Gr.of_ext (ext_alloc (ext_refl _) _)).trans hg1⟩
theorem own_gr {w w' : World} {g B E s n : Nat} {v : Value} {xs : List Value} (h : w.ownsRow B E s v n xs) (hg : Gr g w w') (hB : g < B) : w'.ownsRow B E s v n xs := by
 refine h.kept hg ?_
 rcases e : v.ownBlock with _ | b
 · exact .inl rfl
 · refine .inr fun e2 => ?_
   injection e2 with e2
   have := (h.lt b e).1
   omega
/-- a row of the call's own grows: the cursor is untouched -/
theorem CurAt.grown {w w' : World} {g a : Nat} {row : Option Nat} (h : CurAt w g a) (hg : w.grownBy w' row) (hne : ∀ b, row = some b → g < b) : CurAt w' g a := by
 obtain ⟨A, n, c, s, h1, h2, h3⟩ := h
 refine ⟨A, n, c, s, (hg.block g h1.lt (fun e => by have := hne g e.symm; omega)).trans h1, h2, fun hn => ?_⟩
 obtain ⟨b, o, e, hlt, hc⟩ := h3 hn
 refine ⟨b, o, e, hlt, fun i hi => ?_⟩
 obtain ⟨z, hz, h01⟩ := hc i hi
 exact ⟨z, hg.cell hz (fun e => by have := hne b e.symm; omega), h01⟩
theorem Gr.grown {w w1 w2 : World} {g : Nat} {row : Option Nat} (h : Gr g w w1) (hg : w1.grownBy w2 row) (hne : ∀ b, row = some b → w.heap.size ≤ b) : Gr g w w2 :=
 ⟨hg.os.trans h.os, hg.tape.trans h.tape, hg.output.trans h.output, Nat.le_trans h.size hg.size, fun i hi hn => (hg.block i (Nat.lt_of_lt_of_le hi h.size) (fun e => by have := hne i e.symm; omega)).trans (h.block i hi hn)⟩
end Go.Proofs.YtkcbgiegoadkbaaGreat
namespace Go.Proofs.YtkcbgiegoadkbaaGreat
open Go.RowKit
set_option linter.unusedVariables false
set_option linter.unusedSimpArgs false
structure R5 where
 a : Int
 b : Int
 c : Int
 d : Int
 e : Int
theorem R5.eq_iff (r s : R5) : r = s ↔ (r.a = s.a ∧ r.b = s.b ∧ r.c = s.c ∧ r.d = s.d ∧ r.e = s.e) := by
 cases r; cases s; simp
instance : DecidableEq R5 := fun r s => decidable_of_iff _ (R5.eq_iff r s).symm
def eq5 (r s : R5) : Bool := decide (r = s)
def R5.cells (r : R5) : List Value := [.int .i64 r.a, .int .i64 r.b, .int .i64 r.c, .int .i64 r.d, .int .i64 r.e]
abbrev R5.val (r : R5) : Value := .agg #[.int .i64 r.a, .int .i64 r.b, .int .i64 r.c, .int .i64 r.d, .int .i64 r.e]
def rowsV (l : List R5) : List Value := l.flatMap R5.cells
theorem rowsV_len (l : List R5) : (rowsV l).length = l.length * 5 := flat_len R5.cells 5 (fun _ => rfl) l
theorem rowsV_get {l : List R5} {k : Nat} {r : R5} (h : l[k]? = some r) :
 (rowsV l)[k * 5 + 0]? = some (.int .i64 r.a) ∧ (rowsV l)[k * 5 + 1]? = some (.int .i64 r.b) ∧ (rowsV l)[k * 5 + 2]? = some (.int .i64 r.c) ∧ (rowsV l)[k * 5 + 3]? = some (.int .i64 r.d) ∧ (rowsV l)[k * 5 + 4]? = some (.int .i64 r.e) :=
 ⟨flat_get R5.cells 5 (fun _ => rfl) l k 0 r h (by omega), flat_get R5.cells 5 (fun _ => rfl) l k 1 r h (by omega), flat_get R5.cells 5 (fun _ => rfl) l k 2 r h (by omega), flat_get R5.cells 5 (fun _ => rfl) l k 3 r h (by omega), flat_get R5.cells 5 (fun _ => rfl) l k 4 r h (by omega)⟩
/-- row k of a slice of rows: its address and its five cells -/
theorem rows_at {w : World} {B n : Nat} {A : Option Addr} {l : List R5} (h : Reads w B 5 A n (rowsV l)) {k : Nat} {r : R5} (hr : l[k]? = some r) :
 ∃ b o, A = some ⟨b, o, none⟩ ∧ b < B ∧ w.cell? ⟨b, o + k * 5, none⟩ = some (.int .i64 r.a) ∧ w.cell? ⟨b, o + k * 5 + 1, none⟩ = some (.int .i64 r.b) ∧ w.cell? ⟨b, o + k * 5 + 2, none⟩ = some (.int .i64 r.c) ∧ w.cell? ⟨b, o + k * 5 + 3, none⟩ = some (.int .i64 r.d) ∧ w.cell? ⟨b, o + k * 5 + 4, none⟩ = some (.int .i64 r.e) := by
 have hk : k < l.length := (List.getElem?_eq_some_iff.1 hr).1
 have hn : l.length * 5 = n * 5 := by rw [← rowsV_len]; exact h.1
 obtain ⟨b, o, hA, hb, hc⟩ := h.2 (by omega)
 obtain ⟨h0, h1, h2, h3, h4⟩ := rowsV_get hr
 exact ⟨b, o, hA, hb, hc _ _ h0, hc _ _ h1, hc _ _ h2, hc _ _ h3, hc _ _ h4⟩
theorem rows_len {w : World} {B n : Nat} {A : Option Addr} {l : List R5} (h : Reads w B 5 A n (rowsV l)) : l.length = n := by
 have := h.1; rw [rowsV_len] at this; omega
end Go.Proofs.YtkcbgiegoadkbaaGreat
namespace Go.Proofs.YtkcbgiegoadkbaaGreat
open Go.RowKit
set_option linter.unusedVariables false
set_option linter.unusedSimpArgs false
theorem cells_new_at (w : World) (cs : List Value) (e : TypeId) {H : Nat} (hH : H = w.heap.size) : ∀ j u, cs[j]? = some u → (w.alloc (.cells cs.toArray e)).cell? ((⟨H, 0, none⟩ : Addr).add j) = some u := by
 subst hH
 intro j u hj
 have hk : j < cs.length := (List.getElem?_eq_some_iff.1 hj).1
 rw [add_flat, Nat.zero_add, World.cell?_alloc_at _ _ _ _ rfl]
 simpa using hj
theorem own_ext {w w' : World} {base E size n : Nat} {v : Value} {xs : List Value} (h : w.ownsRow base E size v n xs) (hb : Below w.heap.size w w') : w'.ownsRow base E size v n xs :=
 h.kept (row := none) ⟨hb.os, hb.tape, hb.output, hb.size, fun k hk _ => hb.block k hk⟩ (by
  rcases hv : v.ownBlock with _ | g
  · exact .inl rfl
  · exact .inr (by simp))
theorem cell_far_grown {wx w2 : World} {row : Option Nat} {p : Addr} {u : Value} (hg : wx.grownBy w2 row) (hne : row ≠ some p.block) (h : wx.cell? p = some u) : w2.cell? p = some u := hg.cell h (fun e => hne e.symm)
theorem own_base {w : World} {base base' E size n : Nat} {v : Value} {xs : List Value} (h : w.ownsRow base E size v n xs) (hb : base' ≤ base) : w.ownsRow base' E size v n xs := by
 rcases h.2 with ⟨h1, h2⟩ | ⟨g, cap, cur, hv, hg, h3⟩
 · exact ⟨h.1, .inl ⟨h1, h2⟩⟩
 · exact ⟨h.1, .inr ⟨g, cap, cur, hv, Nat.le_trans hb hg, h3⟩⟩
theorem list_split {α : Type} {l : List α} {k : Nat} (h : k < l.length) : ∃ r, l[k]? = some r := ⟨l[k], List.getElem?_eq_getElem h⟩
theorem own_lit0 (w : World) (E size : Nat) : (w.alloc (.cells #[] E)).ownsRow w.heap.size E size (.slice (some ⟨w.heap.size, 0, none⟩) 0 0) 0 [] :=
 World.ownsRow_made w #[] 0 (Nat.le_refl _) (Nat.zero_le _) (by simp)
theorem cell_old {w : World} {p : Addr} {v : Value} (h : w.cell? p = some v) (o : Obj) : (w.alloc o).cell? p = some v := by
 rw [World.cell?_alloc_some w p o (by rw [h]; rfl)]; exact h
theorem size_mono {w w' : World} (hb : Below w.heap.size w w') : ∀ b, b < w.heap.size → b < w'.heap.size := fun _ h => Nat.lt_of_lt_of_le h hb.size
theorem cell_drew {w : World} {p : Addr} {v : Value} (h : w.cell? p = some v) : w.drew.cell? p = some v := h
theorem cell_set_far {w : World} {p q : Addr} {v u : Value} (hne : q.block ≠ p.block) (h : w.cell? p = some v) : (w.setCell q u).cell? p = some v := by
 rw [World.cell?_setCell_far _ _ _ _ (by simpa using hne)]; exact h
theorem own_far_lt {w : World} {B E size n b : Nat} {v : Value} {xs : List Value} (h : w.ownsRow B E size v n xs) (hb : b < B) : v.ownBlock ≠ some b := fun e => by have := (h.lt b e).1; omega
theorem own_far_ge {w : World} {B E size n b : Nat} {v : Value} {xs : List Value} (h : w.ownsRow B E size v n xs) (hb : w.heap.size ≤ b) : v.ownBlock ≠ some b := fun e => by have := (h.lt b e).2; omega
/-- what a law's sum of sizes leaves -/
def szv (left cost : Int) : Int := if left < cost then -1 else left - cost
theorem szv_no {left cost : Int} (h : left < cost) : szv left cost = -1 := if_pos h
theorem szv_yes {left cost : Int} (h : ¬ left < cost) : szv left cost = left - cost := if_neg h
end Go.Proofs.YtkcbgiegoadkbaaGreat
namespace Go.Proofs.YtkcbgiegoadkbaaGreat
open Go.RowKit
set_option linter.unusedVariables false
set_option linter.unusedSimpArgs false
/-- between two bounds: kept closed, so that a walk does not open it -/
def inB (n lo hi : Int) : Bool := decide (lo ≤ n ∧ n ≤ hi)
theorem inB_iff {n lo hi : Int} : inB n lo hi = true ↔ lo ≤ n ∧ n ≤ hi := by simp [inB]
theorem inB_within (n lo hi : Int) (w : World) :
 Calls Tryz.prog 37 #[.int .i64 n, .int .i64 lo, .int .i64 hi] w fun e w' => e = .returned (.bool (inB n lo hi)) ∧ w = w' := by
 go_enter Tryz.func37, Tryz.ntmps37
 go_wp2
 all_goals go_ret
 all_goals exact ⟨by simp [inB, *] <;> omega, rfl⟩
theorem inB_l1In (n lo hi : Int) (w : World) :
 Calls Tryz.prog 82 #[.int .i64 n, .int .i64 lo, .int .i64 hi] w fun e w' => e = .returned (.bool (inB n lo hi)) ∧ w = w' := by
 go_enter Tryz.func82, Tryz.ntmps82
 go_wp2
 all_goals go_ret
 all_goals exact ⟨by simp [inB, *] <;> omega, rfl⟩
theorem isDay_any (n : Int) (w : World) : Calls Tryz.prog 52 #[.int .i64 n] w fun e w' => e = .returned (.bool (inB n 0 4000)) ∧ w = w' := by
 go_enter Tryz.func52, Tryz.ntmps52
 go_wp2_with (go_at_call 37; refine (inB_within _ _ _ _).mono ?_; rintro e w' ⟨rfl, rfl⟩)
 go_ret
 exact ⟨rfl, rfl⟩
theorem l2Day_any (n : Int) (w : World) : Calls Tryz.prog 53 #[.int .i64 n] w fun e w' => e = .returned (.bool (inB n 0 4000)) ∧ w = w' := by
 go_enter Tryz.func53, Tryz.ntmps53
 go_wp2_with (go_at_call 82; refine (inB_l1In _ _ _ _).mono ?_; rintro e w' ⟨rfl, rfl⟩)
 all_goals go_ret
 all_goals exact ⟨by simp [inB, *] <;> omega, rfl⟩
theorem isCount_any (n : Int) (w : World) : Calls Tryz.prog 83 #[.int .i64 n] w fun e w' => e = .returned (.bool (inB n 0 9999)) ∧ w = w' := by
 go_enter Tryz.func83, Tryz.ntmps83
 go_wp2_with (go_at_call 37; refine (inB_within _ _ _ _).mono ?_; rintro e w' ⟨rfl, rfl⟩)
 go_ret
 exact ⟨rfl, rfl⟩
/-- a student: number, grade, hours, paid till, fails -/
def stuB (r : R5) : Bool := inB r.a 1 99 && inB r.b 0 10 && inB r.c 0 999 && inB r.d 0 4365 && inB r.e 0 9
theorem stu_cases (r : R5) : (stuB r = true ∧ inB r.a 1 99 = true ∧ inB r.b 0 10 = true ∧ inB r.c 0 999 = true ∧ inB r.d 0 4365 = true ∧ inB r.e 0 9 = true) ∨
 (stuB r = false ∧ inB r.a 1 99 = false) ∨ (stuB r = false ∧ inB r.a 1 99 = true ∧ inB r.b 0 10 = false) ∨
 (stuB r = false ∧ inB r.a 1 99 = true ∧ inB r.b 0 10 = true ∧ inB r.c 0 999 = false) ∨
 (stuB r = false ∧ inB r.a 1 99 = true ∧ inB r.b 0 10 = true ∧ inB r.c 0 999 = true ∧ inB r.d 0 4365 = false) ∨
 (stuB r = false ∧ inB r.a 1 99 = true ∧ inB r.b 0 10 = true ∧ inB r.c 0 999 = true ∧ inB r.d 0 4365 = true ∧ inB r.e 0 9 = false) := by
 unfold stuB
 rcases h1 : inB r.a 1 99 with _ | _ <;> rcases h2 : inB r.b 0 10 with _ | _ <;> rcases h3 : inB r.c 0 999 with _ | _ <;> rcases h4 : inB r.d 0 4365 with _ | _ <;> rcases h5 : inB r.e 0 9 with _ | _ <;> simp
def okAt (l : List R5) (k : Nat) : Bool := match l[k]? with | none => true | some r => stuB r && (decide (k = 0) || match l[k - 1]? with | none => true | some s => decide (s.a < r.a))
def okTo (l : List R5) (k : Nat) : Bool := (List.range k).all (okAt l)
theorem okTo_succ (l : List R5) (k : Nat) : okTo l (k + 1) = (okTo l k && okAt l k) := by simp [okTo, List.range_succ]
theorem okTo_not {l : List R5} {k : Nat} (hk : k < l.length) (h : okAt l k = false) : okTo l l.length = false := by
 rw [Bool.eq_false_iff]
 intro ha
 rw [okTo, List.all_eq_true] at ha
 rw [ha k (by simpa using hk)] at h
 cases h
theorem okAt_bad {l : List R5} {k : Nat} {r : R5} (hr : l[k]? = some r) (h : stuB r = false) : okAt l k = false := by simp [okAt, hr, h]
theorem okAt_zero {l : List R5} {r : R5} (hr : l[0]? = some r) (h : stuB r = true) : okAt l 0 = true := by simp [okAt, hr, h]
theorem okAt_pos {l : List R5} {k : Nat} {r s : R5} (hr : l[k]? = some r) (h : stuB r = true) (hk : 0 < k) (hs : l[k - 1]? = some s) : okAt l k = decide (s.a < r.a) := by
 have : ¬ k = 0 := by omega
 simp [okAt, hr, h, hs, this]
/-- a school is valid: day, students, how many passed, how many left -/
def schB (day : Int) (l : List R5) (pa le : Int) : Bool := inB day 0 4000 && decide (l.length ≤ 8) && inB pa 0 9999 && inB le 0 9999 && okTo l l.length
abbrev schV (day : Int) (A : Option Addr) (n c : Nat) (pa le : Int) : Value := .agg #[.int .i64 day, .slice A n c, .int .i64 pa, .int .i64 le]
theorem sch_of (day : Int) (l : List R5) (pa le : Int) {n : Nat} (hl : l.length = n) : schB day l pa le = (inB day 0 4000 && decide (n ≤ 8) && inB pa 0 9999 && inB le 0 9999 && okTo l n) := by rw [schB, hl]
end Go.Proofs.YtkcbgiegoadkbaaGreat
namespace Go.Proofs.YtkcbgiegoadkbaaGreat
open Go.RowKit
set_option linter.unusedVariables false
set_option linter.unusedSimpArgs false
theorem take_eq_succ {α : Type} {l m : List α} {k : Nat} {r s : α} (h : l.take k = m.take k) (hr : l[k]? = some r) (hs : m[k]? = some s) : l.take (k + 1) = m.take (k + 1) ↔ r = s := by
 rw [List.take_add_one, List.take_add_one, hr, hs, h]; simp
/-- what marking leaves in the cells -/
def marks (k0 : Int) (n : Nat) : List Value := (List.range n).map fun (i : Nat) => Value.int .i64 (k0 + (i : Int))
theorem marks_len (k0 : Int) (n : Nat) : (marks k0 n).length = n := by simp [marks]
theorem marks_get {k0 : Int} {n j : Nat} (h : j < n) : (marks k0 n)[j]? = some (.int .i64 (k0 + (j : Int))) := by simp [marks, h]
theorem marks_set {k0 : Int} {k : Nat} {xs : List Value} (h : k < xs.length) : (marks k0 k ++ xs.drop k).set k (.int .i64 (k0 + (k : Int))) = marks k0 (k + 1) ++ xs.drop (k + 1) := by
 rw [List.set_append_right _ _ (by rw [marks_len]; exact Nat.le_refl _), marks_len, Nat.sub_self, List.drop_eq_getElem_cons h, List.set_cons_zero]
 simp [marks, List.range_succ]
theorem marks_set' {k0 z : Int} {k : Nat} {xs : List Value} (h : k < xs.length) (hz : z = k0 + (k : Int)) : (marks k0 k ++ xs.drop k).set k (.int .i64 z) = marks k0 (k + 1) ++ xs.drop (k + 1) := by
 rw [hz]; exact marks_set h
end Go.Proofs.YtkcbgiegoadkbaaGreat
namespace Go.Proofs.YtkcbgiegoadkbaaGreat
open Go.RowKit
set_option linter.unusedVariables false
set_option linter.unusedSimpArgs false
/-- a nil slice has no elements and no room -/
def SlOk (A : Option Addr) (n c : Nat) : Prop := A = none → n = 0 ∧ c = 0
theorem slOk_own {w : World} {base E size n c : Nat} {A : Option Addr} {xs : List Value} (h : w.ownsRow base E size (.slice A n c) n xs) : SlOk A n c := by
 intro hA
 subst hA
 rcases h.2 with ⟨h1, _⟩ | ⟨g, cap, cur, hv, _⟩
 · injection h1 with _ h2 h3; exact ⟨h2, h3⟩
 · cases hv
theorem Blk.grown {w w' : World} {g : Nat} {t : TypeId} {cs : Array Value} {row : Option Nat} (h : Blk w g t cs) (hg : w.grownBy w' row) (hne : row ≠ some g) : Blk w' g t cs := (hg.block g h.lt (Ne.symm hne)).trans h
theorem info_stu : (Tryz.prog.info? 111).map (fun i => (i.zero, i.size, i.bytes)) = some (some (.agg #[.int .i64 0, .int .i64 0, .int .i64 0, .int .i64 0, .int .i64 0]), 5, 40) := by kernel_rfl
theorem rows_one (l : List R5) : ∀ u ∈ rowsV l, u.oneCell' = true := by
 intro u hu
 obtain ⟨r, _, hr⟩ := List.mem_flatMap.1 hu
 simp only [R5.cells, List.mem_cons, List.not_mem_nil, or_false] at hr
 rcases hr with rfl | rfl | rfl | rfl | rfl <;> rfl
theorem reads_news {w : World} {B size n : Nat} {b : Addr} {xs : List Value} (h : Reads w B size (some b) n xs) : ∀ j u, xs[j]? = some u → w.cell? (b.add j) = some u := by
 intro j u hj
 have hlt : j < xs.length := (List.getElem?_eq_some_iff.1 hj).1
 have hn : 0 < n := by
  rcases Nat.eq_zero_or_pos n with h0 | h0
  · have := h.1; rw [h0, Nat.zero_mul] at this; omega
  · exact h0
 obtain ⟨b', o, e, _, hc⟩ := h.2 hn
 injection e with e
 subst e
 rw [add_flat]
 exact hc j u hj
theorem own_set {w : World} {B E size n : Nat} {v : Value} {xs : List Value} (h : w.ownsRow B E size v n xs) {p : Addr} (hp : p.block < B) (u : Value) : (w.setCell p u).ownsRow B E size v n xs :=
 h.kept (row := some p.block) (only_setCell (World.grownBy.refl _ _) (.inl rfl) u) (.inr (own_far_lt h hp))
def OwnRet (day pa le : Int) (n : Nat) (l : List R5) (w : World) (e : Ending) (w' : World) : Prop :=
 ∃ A' c', e = .returned (schV day A' n c' pa le) ∧ w'.ownsRow w.heap.size 111 5 (.slice A' n c') n (rowsV l) ∧ Below w.heap.size w w'
set_option maxHeartbeats 2000000 in
theorem own_any (day pa le : Int) (A : Option Addr) (n c : Nat) (l : List R5) (w : World) (hn : n ≤ 1048576) (hA : SlOk A n c) (h : Reads w w.heap.size 5 A n (rowsV l)) :
 Calls Tryz.prog 31 #[schV day A n c pa le] w (OwnRet day pa le n l w) := by
 obtain ⟨i0, ji, jz0, jz1, jz2⟩ := info_parts info_stu
 have hl := rows_len h
 obtain ⟨W, hW⟩ : ∃ W, W = ((w.alloc (.cells #[.int .i64 day, .slice A n c, .int .i64 pa, .int .i64 le] 32)).alloc (.cells #[.int .i64 0, .slice none 0 0, .int .i64 0, .int .i64 0] 32)).alloc (.cells #[] 111) := ⟨_, rfl⟩
 have hlen : (rowsV l).length = n * 5 := h.1
 have BX : Blk W w.heap.size 32 #[.int .i64 day, .slice A n c, .int .i64 pa, .int .i64 le] := by rw [hW]; exact ((Blk.new w _ _).ext (ext_alloc (ext_refl _) _)).ext (ext_alloc (ext_refl _) _)
 have BR : Blk W (w.heap.size + 1) 32 #[.int .i64 0, .slice none 0 0, .int .i64 0, .int .i64 0] := by
  rw [hW]
  have := (Blk.new (w.alloc (.cells #[.int .i64 day, .slice A n c, .int .i64 pa, .int .i64 le] 32)) #[.int .i64 0, .slice none 0 0, .int .i64 0, .int .i64 0] 32).ext (ext_alloc (ext_refl _) (.cells #[] 111))
  simpa using this
 have hbW : Below w.heap.size w W := by rw [hW]; exact ext_alloc (ext_alloc (ext_alloc (ext_refl _) _) _) _
 have hown : W.ownsRow (w.heap.size + 1 + 1) 111 5 (.slice (some ⟨w.heap.size + 1 + 1, 0, none⟩) 0 0) 0 [] := by
  rw [hW]
  have := own_lit0 ((w.alloc (.cells #[.int .i64 day, .slice A n c, .int .i64 pa, .int .i64 le] 32)).alloc (.cells #[.int .i64 0, .slice none 0 0, .int .i64 0, .int .i64 0] 32)) 111 5
  simpa using this
 have HX := Lib.hid BX
 have HR := Lib.hid BR
 have HO := Lib.hid hown
 have HB := Lib.hid hbW
 have HSZ : Hid (w.heap.size + 1 + 1 + 1 = W.heap.size) := Lib.hid (by rw [hW]; simp)
 have hrW := h.ext hbW (Nat.le_refl _)
 have HRW := Lib.hid hrW
 have HW := Lib.hid hW
 clear BX BR hown hbW hrW h
 have M1 : Hid (0 + n ≤ maxLen) := Lib.hid (by unfold maxLen; omega)
 have M2 : Hid ((0 + n) * 40 ≤ 140737488355328) := Lib.hid (by omega)
 have HLN := Lib.hid hlen
 clear hlen
 clear hW
 rcases A with _ | ad
 · obtain ⟨rfl, rfl⟩ := hA rfl
   have hl0 : l = [] := List.length_eq_zero_iff.1 hl
   subst hl0
   go_enter Tryz.func31, Tryz.ntmps31
   go_wp2
   refine bodyPost_ret (v := schV day (some ⟨w.heap.size + 1 + 1, 0, none⟩) 0 0 pa le) (by simp [results, Tryz.results31, go_sem]) rfl ⟨_, _, rfl, own_base (by have := own_lit0 ((w.alloc (.cells #[.int .i64 day, .slice (some ⟨w.heap.size + 1 + 1, 0, none⟩) 0 0, .int .i64 pa, .int .i64 le] 32)).alloc (.cells #[.int .i64 day, .slice (some ⟨w.heap.size + 1 + 1, 0, none⟩) 0 0, .int .i64 pa, .int .i64 le] 32)) 111 5; simpa [rowsV] using this) (show w.heap.size ≤ w.heap.size + 1 + 1 by omega), ext_alloc (ext_alloc (ext_alloc (ext_refl _) _) _) _⟩
 · have hnews := Lib.hid (reads_news HRW.out)
   go_enter Tryz.func31, Tryz.ntmps31
   go_wp2_with (at_builtin; rw [← HW.out]; refine wpList_append_own _ rfl (.tmp 3) (.tmp 5) 30 rfl (w.heap.size + 1 + 1) 111 i0 _ 5 40 Tryz.underlying30 ji jz0 jz1 jz2 rfl (by decide) _ 0 [] rfl HO.out ad n c (rowsV l) rfl HLN.out hnews.out (rows_one l) M1.out M2.out (by have := HSZ.out; omega) ?_; intro v' w1 hown1 hgrow1 _; change W.grownBy w1 (some (w.heap.size + 1 + 1)) at hgrow1; have HX1 := HX.out.grown hgrow1 (by intro e; injection e with e; omega); have HR1 := HR.out.grown hgrow1 (by intro e; injection e with e; omega); have hb1 := Lib.hid (below_grown' HO.out (by omega) HB.out hgrow1); rw [Nat.zero_add, List.nil_append] at hown1; obtain ⟨A', c', rfl⟩ := own_shape hown1; have HO1 := Lib.hid hown1; clear hgrow1 hown1; obtain ⟨x0, x1, x2, x3⟩ := HX1.q4; obtain ⟨fx0, fx1, fx2, fx3⟩ := HX1.z4; obtain ⟨r0, r1, r2, r3⟩ := HR1.q4; obtain ⟨fr0, fr1, fr2, fr3⟩ := HR1.z4; clear HX1 HR1)
   refine bodyPost_ret (v := schV day A' n c' pa le) (by simp [results, Tryz.results31, go_sem, *]) rfl ⟨A', c', rfl, own_base (base := w.heap.size + 1 + 1) ?_ (by omega), ?_⟩
   · repeat refine own_set ?_ (by first | (show w.heap.size < w.heap.size + 1 + 1; omega) | (show w.heap.size + 1 < w.heap.size + 1 + 1; omega)) _
     exact HO1.out
   · repeat refine ext_set ?_ (by first | exact Nat.le_refl _ | exact Nat.le_succ _) _
     exact hb1.out
end Go.Proofs.YtkcbgiegoadkbaaGreat
namespace Go.Proofs.YtkcbgiegoadkbaaGreat
open Go.RowKit
set_option linter.unusedVariables false
set_option linter.unusedSimpArgs false
end Go.Proofs.YtkcbgiegoadkbaaGreat
namespace Go.Proofs.YtkcbgiegoadkbaaGreat
open Go.RowKit
set_option linter.unusedVariables false
set_option linter.unusedSimpArgs false
theorem gr_alloc2 {w w2 : World} {o : Obj} {r : Option Nat} (h : (w.alloc o).grownBy w2 r) : w.grownBy w2 r :=
 have hb := ext_alloc (ext_refl w) o
 ⟨h.os.trans hb.os, h.tape.trans hb.tape, h.output.trans hb.output, Nat.le_trans hb.size h.size, fun i hi hne => (h.block i (Nat.lt_of_lt_of_le hi hb.size) hne).trans (hb.block i hi)⟩
end Go.Proofs.YtkcbgiegoadkbaaGreat
namespace Go.Proofs.YtkcbgiegoadkbaaGreat
open Go.RowKit
set_option linter.unusedVariables false
set_option linter.unusedSimpArgs false
def dig (n : Nat) : UInt8 := UInt8.ofNat (48 + n)
def decF : Nat → Nat → List UInt8
 | 0, _ => []
 | f + 1, n => if n < 10 then [dig n] else decF f (n / 10) ++ [dig (n % 10)]
theorem decF_more : ∀ (f n : Nat), n < 10 ^ f → decF (f + 1) n = decF f n ∨ f = 0 := by
 intro f
 induction f with
 | zero => intro n _; exact .inr rfl
 | succ f ih =>
   intro n hn
   refine .inl ?_
   by_cases h : n < 10
   · simp [decF, h]
   · have hq : n / 10 < 10 ^ f := by rw [Nat.pow_succ] at hn; omega
     rcases ih (n / 10) hq with e | e
     · have h1 : decF (f + 1 + 1) n = decF (f + 1) (n / 10) ++ [dig (n % 10)] := by rw [decF, if_neg h]
       have h2 : decF (f + 1) n = decF f (n / 10) ++ [dig (n % 10)] := by rw [decF, if_neg h]
       rw [h1, h2, e]
     · subst e; simp at hn; omega
/-- the decimal text of a number -/
def dec (n : Nat) : ByteArray := ⟨(decF 20 n).toArray⟩
def decI (z : Int) : ByteArray := if z < 0 then ⟨#[45]⟩ ++ dec (-z).toNat else dec z.toNat
theorem dec_small {n : Nat} (h : n < 10) : dec n = ⟨#[dig n]⟩ := by simp [dec, decF, h]
theorem ba_mk (l m : List UInt8) : (⟨(l ++ m).toArray⟩ : ByteArray) = ⟨l.toArray⟩ ++ ⟨m.toArray⟩ := by
 apply ByteArray.ext
 simp
theorem dec_step {n : Nat} (h : 10 ≤ n) (hn : n ≤ 9223372036854775807) : dec n = dec (n / 10) ++ ⟨#[dig (n % 10)]⟩ := by
 have h1 : ¬ n < 10 := by omega
 have hq : n / 10 < 10 ^ 19 := by omega
 rcases decF_more 19 (n / 10) hq with e | e
 · have : decF 20 n = decF 20 (n / 10) ++ [dig (n % 10)] := by rw [e]; rw [decF, if_neg h1]
   unfold dec
   rw [this, ba_mk]
 · cases e
theorem decF_len (f n : Nat) : (decF f n).length ≤ f := by
 induction f generalizing n with
 | zero => simp [decF]
 | succ f ih =>
   rw [decF]
   split
   · simp
   · have := ih (n / 10); simp; omega
theorem dec_size (n : Nat) : (dec n).size ≤ 20 := by
 have := decF_len 20 n
 simpa [dec, ByteArray.size] using this
theorem decI_size (z : Int) : (decI z).size ≤ 21 := by
 unfold decI
 split
 · have := dec_size (-z).toNat
   rw [ByteArray.size_append]
   have : (⟨#[45]⟩ : ByteArray).size = 1 := rfl
   omega
 · have := dec_size z.toNat
   omega
theorem digit_text {d : Nat} (h : d < 10) : (⟨#[48, 49, 50, 51, 52, 53, 54, 55, 56, 57]⟩ : ByteArray).extract d (d + 1) = ⟨#[dig d]⟩ := by
 match d, h with
 | 0, _ => rfl
 | 1, _ => rfl
 | 2, _ => rfl
 | 3, _ => rfl
 | 4, _ => rfl
 | 5, _ => rfl
 | 6, _ => rfl
 | 7, _ => rfl
 | 8, _ => rfl
 | 9, _ => rfl
 | d + 10, h => omega
theorem run_digit {P : Program} {t : TypeId} (ht : P.underlying t = some .string) {z : Int} (h0 : 0 ≤ z) (h : z < 10) (w : World) :
 (Instr.slice t (.string ⟨#[48, 49, 50, 51, 52, 53, 54, 55, 56, 57]⟩) (some (.int .i64 z)) (some (.int .i64 (z + 1))) none).run P w = .ok (.string ⟨#[dig z.toNat]⟩) w := by
 obtain ⟨d, rfl⟩ := Int.eq_ofNat_of_zero_le h0
 have hs : (⟨#[48, 49, 50, 51, 52, 53, 54, 55, 56, 57]⟩ : ByteArray).size = 10 := rfl
 rw [run_slice_string_if w t _ _ _ _ _ ht, hs, if_pos (by omega), if_pos (by omega), show ((d : Int) + 1).toNat = d + 1 from by omega, Int.toNat_natCast, digit_text (by omega)]
/-- a text of one digit, made of a slice of one byte -/
theorem run_one_byte {P : Program} (w : World) {src dst e : TypeId} (hs : P.underlying src = some (.slice e)) (he : P.underlying e = some (.int .u8)) (hd : P.underlying dst = some .string) (d : Nat) :
 (convert src dst (.slice (some ⟨w.heap.size, 0, none⟩) 1 1)).run P (w.alloc (.cells #[.int .u8 (48 + (d : Int))] e)) = .ok (.string ⟨#[dig d]⟩) (w.alloc (.cells #[.int .u8 (48 + (d : Int))] e)) := by
 have h := run_convert_bytes_arg (P := P) (w.alloc (.cells #[.int .u8 (48 + (d : Int))] e)) src e hs he w.heap.size 0 1 1 [48 + (d : Int)] rfl (fun i hi => by
  obtain rfl : i = 0 := by omega
  rw [World.cell?_alloc_at _ _ _ _ rfl]; rfl) dst hd
 rw [h]
 simp only [strOfNums, dig, List.map_cons, List.map_nil, show ((48 : Int) + (d : Int)).toNat = 48 + d from by omega]
end Go.Proofs.YtkcbgiegoadkbaaGreat
namespace Go.Proofs.YtkcbgiegoadkbaaGreat
open Go.RowKit
set_option linter.unusedVariables false
set_option linter.unusedSimpArgs false
def NumRet (n : Nat) (w : World) (e : Ending) (w' : World) : Prop := e = .returned (.string (dec n)) ∧ Below w.heap.size w w'
theorem l1Num_pos : ∀ (f n : Nat) (w : World), n < 10 ^ f → n ≤ 9223372036854775807 →
 Calls Tryz.prog 45 #[.int .i64 n] w (NumRet n w) := by
 intro f
 induction f with
 | zero =>
   intro n w hn _
   have h0 : n = 0 := by simpa using hn
   subst h0
   have hsl := @run_digit Tryz.prog 9 Tryz.underlying9 0 (by omega) (by omega)
   go_enter Tryz.func45, Tryz.ntmps45
   go_wp2
   go_ret
   exact ⟨rfl, ext_refl _⟩
 | succ f ih =>
   intro n w hn hb
   by_cases h10 : n < 10
   · have hsl := @run_digit Tryz.prog 9 Tryz.underlying9 (n : Int) (by omega) (by omega)
     clear hn ih
     go_enter Tryz.func45, Tryz.ntmps45
     go_wp2
     go_ret
     refine ⟨?_, ext_refl _⟩
     rw [dec_small h10]
     rfl
   · have hq : n / 10 < 10 ^ f := by rw [Nat.pow_succ] at hn; omega
     have IH := Lib.hid (fun w => ih (n / 10) w hq (by omega))
     have hsl := @run_digit Tryz.prog 9 Tryz.underlying9 ((n : Int) % 10) (by omega) (by omega)
     have hz := dec_size (n / 10)
     clear ih hq hn
     have E := Lib.hid (dec_step (n := n) (by omega) hb)
     go_enter Tryz.func45, Tryz.ntmps45
     go_wp2_with fail
     (refine wp_region_later (by kernel_rfl) (by kernel_rfl) ?_; (repeat (go_big_quiet_step ((go_at_call 45; exact Calls.later_of (IH.out _))))); refine wpQuiet_nil ?_; intro w1 hw1; obtain ⟨⟨wl, hbL⟩, hw1'⟩ := hw1; simp only at hw1'; subst hw1'; obtain ⟨hcL, hfL⟩ := bcell hbL)
     go_wp2
     go_ret
     exact ⟨by rw [E.out]; rfl, (by repeat (first | exact ext_refl _ | assumption | refine ext_alloc ?_ _ | refine ext_drew ?_ | refine ext_drewN ?_ _ | refine ext_set ?_ (by simp <;> omega) _ | refine ext_trans ?_ (by assumption)))⟩
def IntRet (z : Int) (w : World) (e : Ending) (w' : World) : Prop := e = .returned (.string (decI z)) ∧ Below w.heap.size w w'
theorem decI_pos {n : Nat} : decI (n : Int) = dec n := by
 unfold decI; rw [if_neg (by omega), Int.toNat_natCast]
theorem l1Num_any (z : Int) (w : World) (h1 : -9223372036854775807 ≤ z) (h2 : z ≤ 9223372036854775807) :
 Calls Tryz.prog 45 #[.int .i64 z] w fun e w' => e = .returned (.string (decI z)) ∧ Below w.heap.size w w' := by
 by_cases h : z < 0
 · obtain ⟨n, hn⟩ := Int.eq_ofNat_of_zero_le (a := -z) (by omega)
   have hz : z = -(n : Int) := by omega
   subst hz
   have hs := dec_size n
   have e : decI (-(n : Int)) = ⟨#[45]⟩ ++ dec n := by
    unfold decI; rw [if_pos h]; congr 2; omega
   have E := Lib.hid e
   have hc := Lib.hid (fun w => l1Num_pos 19 n w (by omega) (by omega))
   clear e hn
   rw [E.out]
   go_enter Tryz.func45, Tryz.ntmps45
   go_wp2_with (go_at_call 45; refine (hc.out _).mono ?_; rintro e w' ⟨rfl, hb⟩)
   go_ret
   exact ⟨rfl, hb⟩
 · obtain ⟨n, rfl⟩ := Int.eq_ofNat_of_zero_le (a := z) (by omega)
   rw [decI_pos]
   exact l1Num_pos 19 n w (by omega) (by omega)
theorem text_pos (n : Nat) (w : World) (hb : n ≤ 9223372036854775807) :
 Calls Tryz.prog 62 #[.int .i64 n] w (NumRet n w) := by
 go_enter Tryz.func62, Tryz.ntmps62
 go_wp2
 go_loopw [0, 3] (fun i o wr => ∃ (m : Nat) (s : ByteArray), m ≤ 9223372036854775807 ∧ i = .int .i64 m ∧ o = .string s ∧ Below w.heap.size w wr ∧ Hid (dec m ++ s = dec n)) (fun i _ _ => (intOf i).toNat)
 case atStart => exact ⟨n, ⟨#[]⟩, hb, rfl, rfl, ext_refl _, Lib.hid (by apply ByteArray.ext; simp)⟩
 case round =>
  obtain ⟨m, s, hm, rfl, rfl, hbl, heq⟩ := hrel
  have hs : s.size ≤ 20 := by
   have h1 := congrArg ByteArray.size heq.out
   rw [ByteArray.size_append] at h1
   have h2 := dec_size n
   omega
  have hcv := run_one_byte (P := Tryz.prog) wr Tryz.underlying22 Tryz.underlying5 Tryz.underlying9 (m % 10)
  rw [show (((m % 10 : Nat)) : Int) = (m : Int) % 10 from by omega] at hcv
  by_cases h10 : m < 10
  · have e1 : ((m : Int) / 10 == 0) = true := by simp; omega
    have E := Lib.hid (show (⟨#[dig (m % 10)]⟩ : ByteArray) ++ s = dec n by rw [← heq.out, dec_small h10, Nat.mod_eq_of_lt h10])
    go_wp2
    go_ret
    exact ⟨by rw [← E.out]; rfl, (by repeat (first | exact ext_refl _ | assumption | refine ext_alloc ?_ _ | refine ext_drew ?_ | refine ext_drewN ?_ _ | refine ext_set ?_ (by simp <;> omega) _ | refine ext_trans ?_ (by assumption)))⟩
  · have e1 : ((m : Int) / 10 == 0) = false := by simp; omega
    have E := Lib.hid (show dec (m / 10) ++ (⟨#[dig (m % 10)]⟩ ++ s) = dec n by rw [← heq.out, dec_step (by omega) hm, ByteArray.append_assoc])
    go_wp2
    go_roundw
    case rel => exact ⟨m / 10, ⟨#[dig (m % 10)]⟩ ++ s, by omega, by go_num, rfl, (by repeat (first | exact ext_refl _ | assumption | refine ext_alloc ?_ _ | refine ext_drew ?_ | refine ext_drewN ?_ _ | refine ext_set ?_ (by simp <;> omega) _ | refine ext_trans ?_ (by assumption))), E⟩
    case measure => simp [intOf]; omega
end Go.Proofs.YtkcbgiegoadkbaaGreat
namespace Go.Proofs.YtkcbgiegoadkbaaGreat
open Go.RowKit
set_option linter.unusedVariables false
set_option linter.unusedSimpArgs false
theorem within_any (n lo hi : Int) (w : World) :
 Calls Tryz.prog 37 #[.int .i64 n, .int .i64 lo, .int .i64 hi] w fun e w' => e = .returned (.bool (decide (lo ≤ n ∧ n ≤ hi))) ∧ w = w' := by
 go_enter Tryz.func37, Tryz.ntmps37
 go_wp2
 all_goals go_ret
 all_goals exact ⟨by simp [*] <;> omega, rfl⟩
theorem l1In_any (n lo hi : Int) (w : World) :
 Calls Tryz.prog 82 #[.int .i64 n, .int .i64 lo, .int .i64 hi] w fun e w' => e = .returned (.bool (decide (lo ≤ n ∧ n ≤ hi))) ∧ w = w' := by
 go_enter Tryz.func82, Tryz.ntmps82
 go_wp2
 all_goals go_ret
 all_goals exact ⟨by simp [*] <;> omega, rfl⟩
theorem text_any (z : Int) (w : World) (h1 : -9223372036854775807 ≤ z) (h2 : z ≤ 9223372036854775807) :
 Calls Tryz.prog 62 #[.int .i64 z] w fun e w' => e = .returned (.string (decI z)) ∧ Below w.heap.size w w' := by
 by_cases h : z < 0
 · obtain ⟨n, hn⟩ := Int.eq_ofNat_of_zero_le (a := -z) (by omega)
   have hz : z = -(n : Int) := by omega
   subst hz
   have hs := dec_size n
   have e : decI (-(n : Int)) = ⟨#[45]⟩ ++ dec n := by
    unfold decI; rw [if_pos h]; congr 2; omega
   have E := Lib.hid e
   have hc := Lib.hid (fun w => text_pos n w (by omega))
   clear e hn
   rw [E.out]
   go_enter Tryz.func62, Tryz.ntmps62
   go_wp2_with (go_at_call 62; refine (hc.out _).mono ?_; rintro e w' ⟨rfl, hb⟩)
   go_ret
   exact ⟨rfl, hb⟩
 · obtain ⟨n, rfl⟩ := Int.eq_ofNat_of_zero_le (a := z) (by omega)
   rw [decI_pos]
   exact text_pos n w (by omega)
theorem lit_size (a : Array UInt8) : (⟨a⟩ : ByteArray).size = a.size := rfl
end Go.Proofs.YtkcbgiegoadkbaaGreat
namespace Go.Proofs.YtkcbgiegoadkbaaGreat
open Go.RowKit
set_option linter.unusedVariables false
set_option linter.unusedSimpArgs false
def str (l : List UInt8) : ByteArray := ⟨l.toArray⟩
def bl (s : ByteArray) : List UInt8 := s.data.toList
theorem str_bl (s : ByteArray) : str (bl s) = s := by simp [str, bl]
theorem bl_str (l : List UInt8) : bl (str l) = l := by simp [str, bl]
theorem bl_size (s : ByteArray) : (bl s).length = s.size := by unfold bl; rw [Array.length_toList]; rfl
theorem bl_append (a b : ByteArray) : bl (a ++ b) = bl a ++ bl b := by unfold bl; rw [ByteArray.data_append, Array.toList_append]
theorem bl_inj {a b : ByteArray} (h : bl a = bl b) : a = b := by rw [← str_bl a, ← str_bl b, h]
theorem bl_get {s : ByteArray} {k : Nat} (h : k < s.size) : (bl s)[k]? = some s[k] := by
 rw [List.getElem?_eq_getElem (by rw [bl_size]; exact h)]
 rfl
theorem bl_extract (s : ByteArray) (a b : Nat) : bl (s.extract a b) = ((bl s).take b).drop a := by
 simp [bl, List.extract_eq_take_drop, List.take_drop]
 by_cases h : a ≤ b
 · rw [show a + (b - a) = b from by omega]
 · rw [show a + (b - a) = a from by omega, List.drop_of_length_le (by simp; omega), List.drop_of_length_le (by simp; omega)]
def splitL (b : UInt8) : List UInt8 → List (List UInt8)
 | [] => [[]]
 | c :: l => if c = b then [] :: splitL b l else match splitL b l with | [] => [[c]] | h :: t => (c :: h) :: t
def glue (pre : List UInt8) (P : List (List UInt8)) : List (List UInt8) := match P with | [] => [pre] | h :: t => (pre ++ h) :: t
theorem splitL_ne (b : UInt8) (l : List UInt8) : splitL b l ≠ [] := by
 cases l with
 | nil => simp [splitL]
 | cons c l =>
   simp only [splitL]
   split
   · simp
   · split <;> simp
theorem splitL_miss {b c : UInt8} {l : List UInt8} (h : c ≠ b) : splitL b (c :: l) = glue [c] (splitL b l) := by
 simp only [splitL, if_neg h, glue]
 split <;> simp_all
theorem splitL_hit (b : UInt8) (l : List UInt8) : splitL b (b :: l) = [] :: splitL b l := by simp [splitL]
theorem glue_glue (p q : List UInt8) {P : List (List UInt8)} (h : P ≠ []) : glue p (glue q P) = glue (p ++ q) P := by
 cases P with
 | nil => exact absurd rfl h
 | cons x t => simp [glue]
theorem glue_nil {P : List (List UInt8)} (h : P ≠ []) : glue [] P = P := by
 cases P with
 | nil => exact absurd rfl h
 | cons x t => simp [glue]
theorem splitL_len (b : UInt8) (l : List UInt8) : (splitL b l).length = 1 + l.count b := by
 induction l with
 | nil => simp [splitL]
 | cons c l ih =>
   by_cases h : c = b
   · subst h; rw [splitL_hit]; simp [ih]; omega
   · rw [splitL_miss h]
     have : (glue [c] (splitL b l)).length = (splitL b l).length := by
      cases hs : splitL b l with
      | nil => exact absurd hs (splitL_ne b l)
      | cons x t => simp [glue]
     rw [this, ih, List.count_cons_of_ne h]
theorem splitL_one (b : UInt8) (l : List UInt8) : ((splitL b l).length = 1) ↔ b ∉ l := by
 rw [splitL_len, ← List.count_eq_zero]; omega
theorem splitL_head (b : UInt8) (l : List UInt8) : (splitL b l)[0]? = some (l.takeWhile (· != b)) := by
 induction l with
 | nil => simp [splitL]
 | cons c l ih =>
   by_cases h : c = b
   · subst h; rw [splitL_hit]; simp
   · rw [splitL_miss h]
     cases hs : splitL b l with
     | nil => exact absurd hs (splitL_ne b l)
     | cons x t =>
       rw [hs] at ih
       simp at ih
       simp [glue, h, ih]
/-- the state of the loop that splits: P has been cut off, 'pre' is what stands since the last cut -/
def splitAt (b : UInt8) (l : List UInt8) (P : List (List UInt8)) (f i : Nat) : Prop := f ≤ i ∧ i ≤ l.length ∧ P.length ≤ f ∧ P ++ glue ((l.take i).drop f) (splitL b (l.drop i)) = splitL b l
theorem splitAt_start (b : UInt8) (l : List UInt8) : splitAt b l [] 0 0 := ⟨Nat.le_refl _, Nat.zero_le _, by simp, by simp [glue_nil (splitL_ne b l)]⟩
theorem splitAt_hit {b : UInt8} {l : List UInt8} {P : List (List UInt8)} {f i : Nat} (h : splitAt b l P f i) (hc : l[i]? = some b) : splitAt b l (P ++ [(l.take i).drop f]) (i + 1) (i + 1) := by
 obtain ⟨h1, h2, h4, h3⟩ := h
 have hi : i < l.length := (List.getElem?_eq_some_iff.1 hc).1
 refine ⟨Nat.le_refl _, hi, by simp; omega, ?_⟩
 have hd : l.drop i = b :: l.drop (i + 1) := by
  rw [List.drop_eq_getElem_cons hi]
  have := List.getElem?_eq_some_iff.1 hc
  rw [this.2]
 rw [hd, splitL_hit] at h3
 have e : (l.take (i + 1)).drop (i + 1) = [] := by simp
 rw [e, glue_nil (splitL_ne _ _), ← h3]
 simp [glue]
theorem splitAt_miss {b c : UInt8} {l : List UInt8} {P : List (List UInt8)} {f i : Nat} (h : splitAt b l P f i) (hc : l[i]? = some c) (hne : c ≠ b) : splitAt b l P f (i + 1) := by
 obtain ⟨h1, h2, h4, h3⟩ := h
 have hi : i < l.length := (List.getElem?_eq_some_iff.1 hc).1
 refine ⟨by omega, hi, h4, ?_⟩
 have hd : l.drop i = c :: l.drop (i + 1) := by
  rw [List.drop_eq_getElem_cons hi]
  have := List.getElem?_eq_some_iff.1 hc
  rw [this.2]
 rw [hd, splitL_miss hne, glue_glue _ _ (splitL_ne _ _)] at h3
 rw [← h3]
 congr 2
 rw [List.take_add_one, hc, List.drop_append_of_le_length (by simp; omega)]
 rfl
theorem splitAt_end {b : UInt8} {l : List UInt8} {P : List (List UInt8)} {f i : Nat} (h : splitAt b l P f i) (hi : i = l.length) : P ++ [(l.take i).drop f] = splitL b l := by
 obtain ⟨_, _, _, h3⟩ := h
 subst hi
 rw [← h3]
 simp [splitL, glue]
def strsV (P : List (List UInt8)) : List Value := P.map fun x => Value.string (str x)
end Go.Proofs.YtkcbgiegoadkbaaGreat
namespace Go.Proofs.YtkcbgiegoadkbaaGreat
open Go.RowKit
set_option linter.unusedVariables false
set_option linter.unusedSimpArgs false
theorem info_str : (Tryz.prog.info? 9).map (fun i => (i.zero, i.size, i.bytes)) = some (some (.string ⟨#[]⟩), 1, 16) := by kernel_rfl
theorem cell_one_newS' (w : World) (v : Value) (e : TypeId) : ∀ j u, [v][j]? = some u → (w.alloc (.cells #[v] e)).cell? ((⟨w.heap.size, 0, none⟩ : Addr).add j) = some u := by
 intro j u hj
 match j, hj with
 | 0, hj => simp at hj; subst hj; rw [add_flat, World.cell?_alloc_at _ _ _ _ rfl]; rfl
 | j + 1, hj => simp at hj
theorem cell_one_at (w : World) (v : Value) (e : TypeId) {H : Nat} (hH : H = w.heap.size) : ∀ j u, [v][j]? = some u → (w.alloc (.cells #[v] e)).cell? ((⟨H, 0, none⟩ : Addr).add j) = some u := by
 subst hH; exact cell_one_newS' w v e
theorem str_extract (s : ByteArray) (f i : Nat) : s.extract f i = str (((bl s).take i).drop f) := by
 rw [← bl_extract, str_bl]
set_option maxHeartbeats 1000000 in
theorem split_any (s : ByteArray) (b : UInt8) (w : World) (hs : s.size ≤ 16777216) :
 Calls Tryz.prog 57 #[.string s, .int .u8 (b.toNat : Int)] w (RetSlice w 9 1 (splitL b (bl s)).length (strsV (splitL b (bl s)))) := by
 obtain ⟨i0, hi, hz0, hz1, hz2⟩ := info_parts info_str
 have ho := World.ownsRow_nil w w.heap.size 9 1
 have hlb := bl_size s
 have HB := Lib.hid hlb
 clear hlb
 go_enter Tryz.func57, Tryz.ntmps57
 go_wp2
 go_loopw [5, 6, 7] (fun v fr i wr => ∃ (f k : Nat) (P : List (List UInt8)), k ≤ s.size ∧ f ≤ k ∧ P.length ≤ f ∧ i = .int .i64 k ∧ fr = .int .i64 f ∧ wr.ownsRow w.heap.size 9 1 v P.length (strsV P) ∧ Below w.heap.size w wr ∧ Hid (splitAt b (bl s) P f k)) (fun _ _ i _ => s.size - (intOf i).toNat)
 case atStart => exact ⟨0, 0, [], by omega, by omega, by simp, rfl, rfl, ho, (by repeat (first | exact ext_refl _ | assumption | refine ext_alloc ?_ _ | refine ext_drew ?_ | refine ext_drewN ?_ _ | refine ext_set ?_ (by simp <;> omega) _ | refine ext_trans ?_ (by assumption))), Lib.hid (splitAt_start b (bl s))⟩
 case round =>
  obtain ⟨f, k, P, hk, hfk, hPf, rfl, rfl, hown, hbl, hat⟩ := hrel
  have m1 : P.length + 1 ≤ maxLen := by unfold maxLen; omega
  have m2 : (P.length + 1) * 16 ≤ 140737488355328 := by omega
  have m3 := hbl.size
  by_cases hlt : k < s.size
  · have hget := bl_get hlt
    by_cases heq : s[k] = b
    · have hd : ((s[k].toNat : Int) == (b.toNat : Int)) = true := by simp [heq]
      have hnew := Lib.hid (splitAt_hit hat.out (by rw [hget, heq]))
      have hex := Lib.hid (str_extract s f k)
      clear hget heq
      go_wp2_with (at_builtin; refine wpList_append_own _ rfl (.tmp 19) (.tmp 24) 40 rfl w.heap.size 9 i0 _ 1 16 Tryz.underlying40 hi hz0 hz1 hz2 rfl (by decide) _ _ _ rfl (hown.alloc _) _ 1 1 [.string (s.extract f k)] rfl rfl (cell_one_at _ _ _ rfl) (by simp [Value.oneCell']) m1 m2 (by simp; omega) ?_; intro v' w2 hown2 hgrow _)
      go_roundw
      case rel =>
       refine ⟨k + 1, k + 1, P ++ [((bl s).take k).drop f], by omega, by omega, by simp; omega, by go_num, by go_num, ?_, below_grown hown (by repeat (first | exact ext_refl _ | assumption | refine ext_alloc ?_ _ | refine ext_drew ?_ | refine ext_drewN ?_ _ | refine ext_set ?_ (by simp <;> omega) _ | refine ext_trans ?_ (by assumption))) hgrow, hnew⟩
       have e : strsV (P ++ [((bl s).take k).drop f]) = strsV P ++ [.string (s.extract f k)] := by rw [hex.out]; simp [strsV]
       rw [e, List.length_append]
       exact hown2
      case measure => simp [intOf]; omega
    · have hd : ((s[k].toNat : Int) == (b.toNat : Int)) = false := by
       rw [beq_eq_false_iff_ne]
       intro e
       exact heq (UInt8.toNat_inj.1 (by omega))
      have hnew := Lib.hid (splitAt_miss hat.out hget heq)
      clear hget heq
      go_wp2
      go_roundw
      case rel => exact ⟨f, k + 1, P, by omega, by omega, hPf, by go_num, by go_num, hown, hbl, hnew⟩
      case measure => simp [intOf]; omega
  · obtain rfl : k = s.size := by omega
    have hend := Lib.hid (splitAt_end hat.out HB.out.symm)
    have hex := Lib.hid (str_extract s f s.size)
    go_wp2_with (at_builtin; refine wpList_append_own _ rfl (.tmp 28) (.tmp 32) 40 rfl w.heap.size 9 i0 _ 1 16 Tryz.underlying40 hi hz0 hz1 hz2 rfl (by decide) _ _ _ rfl (hown.alloc _) _ 1 1 [.string (s.extract f s.size)] rfl rfl (cell_one_at _ _ _ rfl) (by simp [Value.oneCell']) m1 m2 (by simp; omega) ?_; intro v' w2 hown2 hgrow _)
    obtain ⟨A', c', rfl⟩ := own_shape hown2
    go_ret
    rw [← hend.out]
    have e : strsV (P ++ [((bl s).take s.size).drop f]) = strsV P ++ [.string (s.extract f s.size)] := by rw [hex.out]; simp [strsV]
    refine ⟨A', c', by rw [List.length_append]; rfl, ?_, below_grown hown (by repeat (first | exact ext_refl _ | assumption | refine ext_alloc ?_ _ | refine ext_drew ?_ | refine ext_drewN ?_ _ | refine ext_set ?_ (by simp <;> omega) _ | refine ext_trans ?_ (by assumption))) hgrow⟩
    rw [e, List.length_append]
    exact hown2

set_option maxHeartbeats 1000000 in
theorem l1Split_any (s : ByteArray) (b : UInt8) (w : World) (hs : s.size ≤ 16777216) :
 Calls Tryz.prog 30 #[.string s, .int .u8 (b.toNat : Int)] w (RetSlice w 9 1 (splitL b (bl s)).length (strsV (splitL b (bl s)))) := by
 obtain ⟨i0, hi, hz0, hz1, hz2⟩ := info_parts info_str
 have ho := own_lit0 w 9 1
 have hlb := bl_size s
 have HB := Lib.hid hlb
 clear hlb
 go_enter Tryz.func30, Tryz.ntmps30
 go_wp2
 go_loopw [5, 6, 7] (fun v fr i wr => ∃ (f k : Nat) (P : List (List UInt8)), k ≤ s.size ∧ f ≤ k ∧ P.length ≤ f ∧ i = .int .i64 k ∧ fr = .int .i64 f ∧ wr.ownsRow w.heap.size 9 1 v P.length (strsV P) ∧ Below w.heap.size w wr ∧ Hid (splitAt b (bl s) P f k)) (fun _ _ i _ => s.size - (intOf i).toNat)
 case atStart => exact ⟨0, 0, [], by omega, by omega, by simp, rfl, rfl, ho, (by repeat (first | exact ext_refl _ | assumption | refine ext_alloc ?_ _ | refine ext_drew ?_ | refine ext_drewN ?_ _ | refine ext_set ?_ (by simp <;> omega) _ | refine ext_trans ?_ (by assumption))), Lib.hid (splitAt_start b (bl s))⟩
 case round =>
  obtain ⟨f, k, P, hk, hfk, hPf, rfl, rfl, hown, hbl, hat⟩ := hrel
  have m1 : P.length + 1 ≤ maxLen := by unfold maxLen; omega
  have m2 : (P.length + 1) * 16 ≤ 140737488355328 := by omega
  have m3 := hbl.size
  by_cases hlt : k < s.size
  · have hget := bl_get hlt
    by_cases heq : s[k] = b
    · have hd : ((s[k].toNat : Int) == (b.toNat : Int)) = true := by simp [heq]
      have hnew := Lib.hid (splitAt_hit hat.out (by rw [hget, heq]))
      have hex := Lib.hid (str_extract s f k)
      clear hget heq
      go_wp2_with (at_builtin; refine wpList_append_own _ rfl (.tmp 20) (.tmp 25) 40 rfl w.heap.size 9 i0 _ 1 16 Tryz.underlying40 hi hz0 hz1 hz2 rfl (by decide) _ _ _ rfl (hown.alloc _) _ 1 1 [.string (s.extract f k)] rfl rfl (cell_one_at _ _ _ rfl) (by simp [Value.oneCell']) m1 m2 (by simp; omega) ?_; intro v' w2 hown2 hgrow _)
      go_roundw
      case rel =>
       refine ⟨k + 1, k + 1, P ++ [((bl s).take k).drop f], by omega, by omega, by simp; omega, by go_num, by go_num, ?_, below_grown hown (by repeat (first | exact ext_refl _ | assumption | refine ext_alloc ?_ _ | refine ext_drew ?_ | refine ext_drewN ?_ _ | refine ext_set ?_ (by simp <;> omega) _ | refine ext_trans ?_ (by assumption))) hgrow, hnew⟩
       have e : strsV (P ++ [((bl s).take k).drop f]) = strsV P ++ [.string (s.extract f k)] := by rw [hex.out]; simp [strsV]
       rw [e, List.length_append]
       exact hown2
      case measure => simp [intOf]; omega
    · have hd : ((s[k].toNat : Int) == (b.toNat : Int)) = false := by
       rw [beq_eq_false_iff_ne]
       intro e
       exact heq (UInt8.toNat_inj.1 (by omega))
      have hnew := Lib.hid (splitAt_miss hat.out hget heq)
      clear hget heq
      go_wp2
      go_roundw
      case rel => exact ⟨f, k + 1, P, by omega, by omega, hPf, by go_num, by go_num, hown, hbl, hnew⟩
      case measure => simp [intOf]; omega
  · obtain rfl : k = s.size := by omega
    have hend := Lib.hid (splitAt_end hat.out HB.out.symm)
    have hex := Lib.hid (str_extract s f s.size)
    go_wp2_with (at_builtin; refine wpList_append_own _ rfl (.tmp 29) (.tmp 33) 40 rfl w.heap.size 9 i0 _ 1 16 Tryz.underlying40 hi hz0 hz1 hz2 rfl (by decide) _ _ _ rfl (hown.alloc _) _ 1 1 [.string (s.extract f s.size)] rfl rfl (cell_one_at _ _ _ rfl) (by simp [Value.oneCell']) m1 m2 (by simp; omega) ?_; intro v' w2 hown2 hgrow _)
    obtain ⟨A', c', rfl⟩ := own_shape hown2
    go_ret
    rw [← hend.out]
    have e : strsV (P ++ [((bl s).take s.size).drop f]) = strsV P ++ [.string (s.extract f s.size)] := by rw [hex.out]; simp [strsV]
    refine ⟨A', c', by rw [List.length_append]; rfl, ?_, below_grown hown (by repeat (first | exact ext_refl _ | assumption | refine ext_alloc ?_ _ | refine ext_drew ?_ | refine ext_drewN ?_ _ | refine ext_set ?_ (by simp <;> omega) _ | refine ext_trans ?_ (by assumption))) hgrow⟩
    rw [e, List.length_append]
    exact hown2

end Go.Proofs.YtkcbgiegoadkbaaGreat
namespace Go.Proofs.YtkcbgiegoadkbaaGreat
open Go.RowKit
set_option linter.unusedVariables false
set_option linter.unusedSimpArgs false
def findI (l : List R5) (id : Int) : Int := match l.findIdx? (fun r => decide (r.a = id)) with | some k => (k : Int) | none => -1
/-- no student of the first k has the number -/
def noneTo (l : List R5) (id : Int) (k : Nat) : Prop := ∀ i r, i < k → l[i]? = some r → r.a ≠ id
theorem noneTo_zero (l : List R5) (id : Int) : noneTo l id 0 := fun i r h => absurd h (by omega)
theorem noneTo_succ {l : List R5} {id : Int} {k : Nat} {r : R5} (h : noneTo l id k) (hr : l[k]? = some r) (hne : r.a ≠ id) : noneTo l id (k + 1) := by
 intro i s hi hs
 by_cases e : i = k
 · subst e; rw [hr] at hs; injection hs with hs; rw [← hs]; exact hne
 · exact h i s (by omega) hs
theorem findI_hit {l : List R5} {id : Int} {k : Nat} {r : R5} (h : noneTo l id k) (hr : l[k]? = some r) (he : r.a = id) : findI l id = k := by
 have hk := (List.getElem?_eq_some_iff.1 hr).1
 have : l.findIdx? (fun r => decide (r.a = id)) = some k := by
  rw [List.findIdx?_eq_some_iff_getElem]
  refine ⟨hk, ?_, fun j hj => ?_⟩
  · have := (List.getElem?_eq_some_iff.1 hr).2
    rw [this]; simpa using he
  · have := h j l[j] hj (List.getElem?_eq_getElem (by omega))
    simpa using this
 rw [findI, this]
theorem findI_miss {l : List R5} {id : Int} (h : noneTo l id l.length) : findI l id = -1 := by
 have : l.findIdx? (fun r => decide (r.a = id)) = none := by
  rw [List.findIdx?_eq_none_iff]
  intro r hr
  obtain ⟨i, hi⟩ := List.mem_iff_getElem?.1 hr
  have := h i r (List.getElem?_eq_some_iff.1 hi).1 hi
  simpa using this
 rw [findI, this]
theorem findI_cases (l : List R5) (id : Int) : (findI l id = -1 ∧ noneTo l id l.length) ∨ ∃ (k : Nat) (r : R5), findI l id = k ∧ l[k]? = some r ∧ r.a = id ∧ noneTo l id k := by
 rcases h : l.findIdx? (fun r => decide (r.a = id)) with _ | k
 · left
   have h2 := List.findIdx?_eq_none_iff.1 h
   refine ⟨by rw [findI, h], fun i r _ hr => ?_⟩
   have := h2 r (List.mem_of_getElem? hr)
   simpa using this
 · right
   obtain ⟨hk, h1, h2⟩ := List.findIdx?_eq_some_iff_getElem.1 h
   refine ⟨k, l[k], by rw [findI, h], List.getElem?_eq_getElem hk, by simpa using h1, fun i r hi hr => ?_⟩
   have := h2 i hi
   rw [(List.getElem?_eq_some_iff.1 hr).2] at this
   simpa using this
set_option maxHeartbeats 2000000 in
theorem at_any (day pa le id : Int) (A : Option Addr) (n c : Nat) (l : List R5) (w : World) (hn : n ≤ 1048576) (h : Reads w w.heap.size 5 A n (rowsV l)) :
 Calls Tryz.prog 86 #[schV day A n c pa le, .int .i64 id] w fun e w' => e = .returned (.int .i64 (findI l id)) ∧ Below w.heap.size w w' := by
 have hl := rows_len h
 have H := Lib.hid h
 have HL := Lib.hid hl
 clear h hl
 go_enter Tryz.func86, Tryz.ntmps86
 go_wp2
 go_loopw [10] (fun i wr => ∃ k : Nat, k ≤ n ∧ i = .int .i64 k ∧ Hid (Below w.heap.size w wr) ∧ Hid (noneTo l id k)) (fun i _ => n - (intOf i).toNat)
 case atStart => exact ⟨0, Nat.zero_le _, rfl, Lib.hid (ext_alloc (ext_refl _) _), Lib.hid (noneTo_zero _ _)⟩
 case round =>
  obtain ⟨k, hk, rfl, hbl, hno⟩ := hrel
  by_cases hlt : k < n
  · obtain ⟨r, hr⟩ := list_split (l := l) (k := k) (by rw [HL.out]; exact hlt)
    obtain ⟨b, o, rfl, hb, c0, c1, c2, c3, c4⟩ := rows_at (H.out.ext hbl.out (Nat.le_refl _)) hr
    have hbw := Lib.hid (ext_alloc hbl.out (.cells #[.int .i64 r.a, .int .i64 r.b, .int .i64 r.c, .int .i64 r.d, .int .i64 r.e] 111))
    by_cases he : r.a = id
    · have hd : (r.a == id) = true := by simpa using he
      have hf := Lib.hid (findI_hit hno.out hr he)
      clear hr he
      go_wp2
      go_ret
      exact ⟨by rw [hf.out]; rfl, hbw.out⟩
    · have hd : (r.a == id) = false := by simpa using he
      have hf := Lib.hid (noneTo_succ hno.out hr he)
      clear hr he
      go_wp2
      go_roundw
      case rel => exact ⟨k + 1, by omega, by go_num, hbw, hf⟩
      case measure => simp [intOf]; omega
  · obtain rfl : k = n := by omega
    have hf := Lib.hid (findI_miss (l := l) (id := id) (by rw [HL.out]; exact hno.out))
    go_wp2
    go_ret
    exact ⟨by rw [hf.out]; rfl, hbl.out⟩
set_option maxHeartbeats 2000000 in
theorem l25Find_any (day pa le id : Int) (A : Option Addr) (n c : Nat) (l : List R5) (w : World) (hn : n ≤ 1048576) (h : Reads w w.heap.size 5 A n (rowsV l)) :
 Calls Tryz.prog 104 #[schV day A n c pa le, .int .i64 id] w fun e w' => e = .returned (.int .i64 (findI l id)) ∧ Below w.heap.size w w' := by
 have hl := rows_len h
 have H := Lib.hid h
 have HL := Lib.hid hl
 clear h hl
 have HP : Hid ((w.alloc (.cells #[.int .i64 day, .slice A n c, .int .i64 pa, .int .i64 le] 32)).cell? ⟨w.heap.size, 1, none⟩ = some (.slice A n c)) := Lib.hid (by simp [go_sem])
 go_enter Tryz.func104, Tryz.ntmps104
 go_wp2
 go_loopw [5] (fun i wr => ∃ k : Nat, k ≤ n ∧ i = .int .i64 k ∧ Hid (Below w.heap.size w wr) ∧ w.heap.size < wr.heap.size ∧ Hid (wr.cell? ⟨w.heap.size, 1, none⟩ = some (.slice A n c)) ∧ Hid (noneTo l id k)) (fun i _ => n - (intOf i).toNat)
 case atStart => exact ⟨0, Nat.zero_le _, rfl, Lib.hid (ext_alloc (ext_refl _) _), by simp, HP, Lib.hid (noneTo_zero _ _)⟩
 case round =>
  obtain ⟨k, hk, rfl, hbl, hs, hp1, hno⟩ := hrel
  have p1 := hp1.out
  by_cases hlt : k < n
  · obtain ⟨r, hr⟩ := list_split (l := l) (k := k) (by rw [HL.out]; exact hlt)
    obtain ⟨b, o, hA, hb, c0, c1, c2, c3, c4⟩ := rows_at (H.out.ext hbl.out (Nat.le_refl _)) hr
    subst hA
    by_cases he : r.a = id
    · have hd : (r.a == id) = true := by simpa using he
      have hf := Lib.hid (findI_hit hno.out hr he)
      clear hr he
      go_wp2
      go_ret
      exact ⟨by rw [hf.out]; rfl, hbl.out⟩
    · have hd : (r.a == id) = false := by simpa using he
      have hf := Lib.hid (noneTo_succ hno.out hr he)
      clear hr he
      go_wp2
      go_roundw
      case rel => exact ⟨k + 1, by omega, by go_num, hbl, hs, hp1, hf⟩
      case measure => simp [intOf]; omega
  · obtain rfl : k = n := by omega
    have hf := Lib.hid (findI_miss (l := l) (id := id) (by rw [HL.out]; exact hno.out))
    go_wp2
    go_ret
    exact ⟨by rw [hf.out]; rfl, hbl.out⟩
end Go.Proofs.YtkcbgiegoadkbaaGreat
namespace Go.Proofs.YtkcbgiegoadkbaaGreat
open Go.RowKit
set_option linter.unusedVariables false
set_option linter.unusedSimpArgs false
/-- where a new student is put: ahead of the first with a number not less -/
def insK (l : List R5) (id : Int) : Nat := (l.takeWhile fun r => decide (r.a < id)).length
def insS (l : List R5) (id v day : Int) : List R5 := l.take (insK l id) ++ ⟨id, v, 0, day, 0⟩ :: l.drop (insK l id)
theorem insK_le (l : List R5) (id : Int) : insK l id ≤ l.length := (List.takeWhile_sublist _).length_le
theorem insS_len (l : List R5) (id v day : Int) : (insS l id v day).length = l.length + 1 := by
 have := insK_le l id
 simp [insS]; omega
/-- what the loop that looks for the place knows -/
def lowTo (l : List R5) (id : Int) (k : Nat) : Prop := ∀ i r, i < k → l[i]? = some r → r.a < id
theorem lowTo_zero (l : List R5) (id : Int) : lowTo l id 0 := fun i r h => absurd h (by omega)
theorem lowTo_succ {l : List R5} {id : Int} {k : Nat} {r : R5} (h : lowTo l id k) (hr : l[k]? = some r) (hlt : r.a < id) : lowTo l id (k + 1) := by
 intro i s hi hs
 by_cases e : i = k
 · subst e; rw [hr] at hs; injection hs with hs; rw [← hs]; exact hlt
 · exact h i s (by omega) hs
theorem insK_of : ∀ (l : List R5) (id : Int) (k : Nat), lowTo l id k → k ≤ l.length → (∀ r, l[k]? = some r → ¬ r.a < id) → insK l id = k := by
 intro l
 induction l with
 | nil => intro id k _ hk _; simp at hk; subst hk; rfl
 | cons x l ih =>
   intro id k h hk hend
   rcases k with _ | k
   · have := hend x (by simp)
     simp [insK, List.takeWhile_cons, this]
   · have hx := h 0 x (by omega) (by simp)
     have := ih id k (fun i r hi hr => h (i + 1) r (by omega) (by simpa using hr)) (by simpa using hk) (fun r hr => hend r (by simpa using hr))
     unfold insK at this ⊢
     simp [List.takeWhile_cons, hx, this]
/-- a student who is there, after a step: the students, how many passed, how many left -/
def teach (day pa le : Int) (l : List R5) (i : Nat) (r : R5) (k v : Int) : Option (List R5 × Int × Int) :=
 if k = 3 then (if r.d < day ∨ inB v 1 20 = false then none else some (l.set i { r with c := r.c + v }, pa, le))
 else if k = 4 then (if r.d < day ∨ r.b = 10 ∨ inB v 0 100 = false then none else if 70 ≤ v ∧ 10 + 5 * r.b ≤ r.c then some (l.set i ⟨r.a, r.b + 1, 0, r.d, 0⟩, pa + 1, le) else some (l.set i { r with e := r.e + 1 }, pa, le))
 else if k = 5 then (if inB v 1 365 = false then none else some (l.set i { r with d := (if day < r.d then r.d else day) + v }, pa, le))
 else (if v ≠ 0 then none else some (l.eraseIdx i, pa, le + 1))
/-- a step, ahead of the question whether the school is valid then -/
def tryS (day pa le : Int) (l : List R5) (k id v : Int) : Option (Int × List R5 × Int × Int) :=
 if k = 1 then (if id ≠ 0 ∨ v < 1 then none else some (day + v, l, pa, le))
 else if k = 2 then (if 0 ≤ findI l id ∨ inB v 0 5 = false then none else some (day, insS l id v day, pa, le))
 else if k = 3 ∨ k = 4 ∨ k = 5 ∨ k = 6 then (if findI l id < 0 then none else match l[(findI l id).toNat]? with | none => none | some r => (teach day pa le l (findI l id).toNat r k v).map fun q => (day, q.1, q.2.1, q.2.2))
 else none
/-- a step of a valid school -/
def stepS (day pa le : Int) (l : List R5) (k id v : Int) : Option (Int × List R5 × Int × Int) :=
 (tryS day pa le l k id v).filter fun q => schB q.1 q.2.1 q.2.2.1 q.2.2.2
end Go.Proofs.YtkcbgiegoadkbaaGreat
namespace Go.Proofs.YtkcbgiegoadkbaaGreat
open Go.RowKit
set_option linter.unusedVariables false
set_option linter.unusedSimpArgs false
/-- the reference's first question -/
def stepOk (l : List R5) (k id v : Int) : Bool :=
 if k = 1 then decide (id = 0 ∧ 1 ≤ v)
 else if k = 2 then inB id 1 99 && decide (findI l id < 0) && inB v 0 5
 else if k = 3 then decide (0 ≤ findI l id) && inB v 1 20
 else if k = 4 then decide (0 ≤ findI l id) && inB v 0 100
 else if k = 5 then decide (0 ≤ findI l id) && inB v 1 365
 else decide (k = 6) && decide (0 ≤ findI l id) && decide (v = 0)
theorem schB_mem {day pa le : Int} {l : List R5} (h : schB day l pa le = true) {r : R5} (hr : r ∈ l) : stuB r = true := by
 simp only [schB, Bool.and_eq_true] at h
 have h2 := h.2
 rw [okTo, List.all_eq_true] at h2
 obtain ⟨k, hk⟩ := List.mem_iff_getElem?.1 hr
 have hlt := (List.getElem?_eq_some_iff.1 hk).1
 have := h2 k (by simpa using hlt)
 rw [okAt, hk] at this
 simp only [Bool.and_eq_true] at this
 exact this.1
theorem schB_len {day pa le : Int} {l : List R5} (h : schB day l pa le = true) : l.length ≤ 8 := by
 simp only [schB, Bool.and_eq_true, decide_eq_true_eq] at h
 exact h.1.1.1.2
theorem schB_day {day pa le : Int} {l : List R5} (h : schB day l pa le = true) : 0 ≤ day ∧ day ≤ 4000 := by
 simp only [schB, Bool.and_eq_true, decide_eq_true_eq, inB_iff] at h
 exact h.1.1.1.1
theorem schB_pa {day pa le : Int} {l : List R5} (h : schB day l pa le = true) : (0 ≤ pa ∧ pa ≤ 9999) ∧ (0 ≤ le ∧ le ≤ 9999) := by
 simp only [schB, Bool.and_eq_true, decide_eq_true_eq, inB_iff] at h
 exact ⟨h.1.1.2, h.1.2⟩
theorem insS_mem (l : List R5) (id v day : Int) : (⟨id, v, 0, day, 0⟩ : R5) ∈ insS l id v day := by simp [insS]
theorem stepS_no {day pa le : Int} {l : List R5} {k id v : Int} (h : stepOk l k id v = false) : stepS day pa le l k id v = none := by
 unfold stepOk at h
 unfold stepS tryS teach
 by_cases h1 : k = 1
 · simp only [h1, if_pos, decide_eq_false_iff_not] at h ⊢
   rw [if_pos (by omega)]
   rfl
 rw [if_neg h1] at h
 rw [if_neg h1]
 by_cases h2 : k = 2
 · simp only [h2, if_pos] at h ⊢
   by_cases hc : 0 ≤ findI l id ∨ inB v 0 5 = false
   · rw [if_pos hc]; rfl
   · rw [if_neg hc]
     have hv : inB v 0 5 = true := by simpa using fun e => hc (.inr e)
     have hf : findI l id < 0 := by omega
     rw [hv, decide_eq_true hf] at h
     simp only [Bool.and_true] at h
     rw [Option.filter_some]
     rw [if_neg]
     intro hs
     have := schB_mem hs (insS_mem l id v day)
     simp [stuB, h] at this
 rw [if_neg h2] at h
 rw [if_neg h2]
 by_cases hk : k = 3 ∨ k = 4 ∨ k = 5 ∨ k = 6
 · rw [if_pos hk]
   by_cases hf : findI l id < 0
   · rw [if_pos hf]; rfl
   · rw [if_neg hf]
     have hf' : decide (0 ≤ findI l id) = true := by simpa using hf
     rcases hr : l[(findI l id).toNat]? with _ | r
     · rfl
     · simp only [hf', Bool.true_and, Bool.and_true] at h
       rcases hk with rfl | rfl | rfl | rfl
       · simp only [if_pos] at h
         simp [h]
       · simp only [if_pos] at h
         simp at h
         simp [h]
       · simp at h
         simp [h]
       · simp at h
         simp [h]
 · rw [if_neg hk]; rfl
/-- each kind, the first question said yes -/
theorem stepS_1 {day pa le : Int} {l : List R5} {id v : Int} (h : stepOk l 1 id v = true) : stepS day pa le l 1 id v = if schB (day + v) l pa le = true then some (day + v, l, pa, le) else none := by
 simp [stepOk] at h
 unfold stepS tryS
 rw [if_pos rfl, if_neg (by omega), Option.filter_some]
theorem stepS_2 {day pa le : Int} {l : List R5} {id v : Int} (h : stepOk l 2 id v = true) : stepS day pa le l 2 id v = if schB day (insS l id v day) pa le = true then some (day, insS l id v day, pa, le) else none := by
 simp [stepOk] at h
 unfold stepS tryS
 rw [if_neg (by omega), if_pos rfl, if_neg (by simp [h]), Option.filter_some]
theorem stepOk_find {l : List R5} {k id v : Int} (h : stepOk l k id v = true) (hk : k = 3 ∨ k = 4 ∨ k = 5 ∨ k = 6) : ∃ (i : Nat) (r : R5), findI l id = i ∧ l[i]? = some r ∧ r.a = id := by
 have hf : 0 ≤ findI l id := by
  rcases hk with rfl | rfl | rfl | rfl <;> simp [stepOk] at h <;> omega
 rcases findI_cases l id with ⟨h1, _⟩ | ⟨i, r, h1, h2, h3, _⟩
 · omega
 · exact ⟨i, r, h1, h2, h3⟩
theorem stepS_t {day pa le : Int} {l : List R5} {k id v : Int} {i : Nat} {r : R5} (hk : k = 3 ∨ k = 4 ∨ k = 5 ∨ k = 6) (hf : findI l id = i) (hr : l[i]? = some r) :
 stepS day pa le l k id v = ((teach day pa le l i r k v).map fun q => (day, q.1, q.2.1, q.2.2)).filter fun q => schB q.1 q.2.1 q.2.2.1 q.2.2.2 := by
 unfold stepS tryS
 rw [if_neg (by omega), if_neg (by omega), if_pos hk, hf, if_neg (by omega)]
 simp only [Int.toNat_natCast, hr]
theorem find_none {l : List R5} {k id v day pa le : Int} (hk : k = 3 ∨ k = 4 ∨ k = 5 ∨ k = 6) (hf : findI l id = -1) : stepS day pa le l k id v = none := by
 unfold stepS tryS
 rw [if_neg (by omega), if_neg (by omega), if_pos hk, hf, if_pos (by omega)]
 rfl
abbrev Sch4 := Int × List R5 × Int × Int
/-- a school of the call's own comes back, and yes; or the empty one, and no -/
def RetSch (o : Option Sch4) (w : World) (e : Ending) (w' : World) : Prop :=
 match o with
 | none => e = .returned (.tuple #[schV 0 none 0 0 0 0, .bool false]) ∧ Below w.heap.size w w'
 | some (d, l, p, q) => ∃ A c, e = .returned (.tuple #[schV d A l.length c p q, .bool true]) ∧ w'.ownsRow w.heap.size 111 5 (.slice A l.length c) l.length (rowsV l) ∧ Below w.heap.size w w'
/-- the reference's: some school of the call's own, and yes or no -/
def RetMake (o : Option Sch4) (w : World) (e : Ending) (w' : World) : Prop :=
 ∃ (A : Option Addr) (c : Nat) (d p q : Int) (l : List R5), e = .returned (.tuple #[schV d A l.length c p q, .bool o.isSome]) ∧ w'.ownsRow w.heap.size 111 5 (.slice A l.length c) l.length (rowsV l) ∧
  (∀ x, o = some x → x = (d, l, p, q)) ∧ Below w.heap.size w w'
end Go.Proofs.YtkcbgiegoadkbaaGreat
namespace Go.Proofs.YtkcbgiegoadkbaaGreat
open Go.RowKit
set_option linter.unusedVariables false
set_option linter.unusedSimpArgs false
def stuT (r : R5) : ByteArray := ⟨#[103, 114, 97, 100, 101, 32]⟩ ++ decI r.b ++ ⟨#[32, 104, 111, 117, 114, 115, 32]⟩ ++ decI r.c ++ ⟨#[32, 112, 97, 105, 100, 32]⟩ ++ decI r.d ++ ⟨#[32, 102, 97, 105, 108, 115, 32]⟩ ++ decI r.e
theorem stu_bounds {r : R5} (h : stuB r = true) : (1 ≤ r.a ∧ r.a ≤ 99) ∧ (0 ≤ r.b ∧ r.b ≤ 10) ∧ (0 ≤ r.c ∧ r.c ≤ 999) ∧ (0 ≤ r.d ∧ r.d ≤ 4365) ∧ (0 ≤ r.e ∧ r.e ≤ 9) := by
 simp only [stuB, Bool.and_eq_true, inB_iff] at h
 obtain ⟨⟨⟨⟨h1, h2⟩, h3⟩, h4⟩, h5⟩ := h
 exact ⟨h1, h2, h3, h4, h5⟩
set_option maxHeartbeats 1000000 in
set_option maxRecDepth 100000 in
theorem l25Text_any (r : R5) (w : World) (h : stuB r = true) :
 Calls Tryz.prog 109 #[r.val] w fun e w' => e = .returned (.string (stuT r)) ∧ Below w.heap.size w w' := by
 obtain ⟨_, h2, h3, h4, h5⟩ := stu_bounds h
 have z1 := decI_size r.b
 have z2 := decI_size r.c
 have z3 := decI_size r.d
 have z4 := decI_size r.e
 have hE : Hid (stuT r = ⟨#[103, 114, 97, 100, 101, 32]⟩ ++ decI r.b ++ ⟨#[32, 104, 111, 117, 114, 115, 32]⟩ ++ decI r.c ++ ⟨#[32, 112, 97, 105, 100, 32]⟩ ++ decI r.d ++ ⟨#[32, 102, 97, 105, 108, 115, 32]⟩ ++ decI r.e) := Lib.hid rfl
 rw [hE.out]
 clear hE h
 have b1 : -9223372036854775807 ≤ r.b ∧ r.b ≤ 9223372036854775807 := by omega
 have b2 : -9223372036854775807 ≤ r.c ∧ r.c ≤ 9223372036854775807 := by omega
 have b3 : -9223372036854775807 ≤ r.d ∧ r.d ≤ 9223372036854775807 := by omega
 have b4 : -9223372036854775807 ≤ r.e ∧ r.e ≤ 9223372036854775807 := by omega
 go_enter Tryz.func109, Tryz.ntmps109
 go_wp2
 (refine wp_region_later (by kernel_rfl) (by kernel_rfl) ?_; (repeat (go_big_quiet_step ((go_at_call 45; exact Calls.later_of (l1Num_any _ _ (by omega) (by omega)))))); refine wpQuiet_nil ?_; intro w1 hw1; obtain ⟨⟨wl, hbL⟩, hw1'⟩ := hw1; simp only at hw1'; subst hw1'; obtain ⟨hcL, hfL⟩ := bcell hbL)
 go_wp2
 go_ret
 exact ⟨rfl, (by repeat (first | exact ext_refl _ | assumption | refine ext_alloc ?_ _ | refine ext_drew ?_ | refine ext_drewN ?_ _ | refine ext_set ?_ (by simp <;> omega) _ | refine ext_trans ?_ (by assumption)))⟩
end Go.Proofs.YtkcbgiegoadkbaaGreat
namespace Go.Proofs.YtkcbgiegoadkbaaGreat
open Go.RowKit
set_option linter.unusedVariables false
set_option linter.unusedSimpArgs false
section
variable {P : Program} {ops : Array Oper} {md : Region.Mode} {C : World → Prop}
/-- n steps below number n, each quiet in the class; then L -/
def HeadQ (P : Program) (md : Region.Mode) (ops : Array Oper) (C : World → Prop) (n : Nat) (L : Array Bool → Act → Prop) : Nat → Array Bool → Act → Prop
 | 0, done, a => L done a
 | f + 1, done, a => Region.ready md ops done ≠ [] ∧ ∀ i ∈ Region.ready md ops done, i < n ∧ qOp P ops C i (HeadQ P md ops C n L f (done.setIfInBounds i true)) a
theorem HeadQ.any {n g : Nat} {L : Array Bool → Act → Prop} {Q : Exit → Act → World → Prop} (hL : ∀ done a w, C w → L done a → wpAny P md ops Q g done a w) :
 ∀ (f : Nat) (done : Array Bool) (a : Act) (w : World), C w → HeadQ P md ops C n L f done a → wpAny P md ops Q (f + g) done a w := by
 intro f
 induction f with
 | zero => intro done a w hw h; rw [Nat.zero_add]; exact hL _ _ _ hw h
 | succ f ih =>
   intro done a w hw h
   rw [Nat.add_right_comm]
   exact ⟨fun e => absurd e h.1, fun i hi => wpOp_of_qOp hw (fun a' w' hw' h' => ih _ a' w' hw' h') (h.2 i hi).2⟩
theorem HeadQ.lead {n i : Nat} {oi : Oper} {v : Value} {L : Array Bool → Act → Prop} (hi : ops[i]? = some oi) (hsel : ∀ (j : Nat) (o : Oper) cs b, ops[j]? = some o → o.op ≠ .select cs b)
 (hs : Region.sinkB md ops n = true) (hc : Region.chainB md ops n = true) (hn : n < ops.size) (hin : i < n) (hend : ∀ done a, L done a → ∀ j ∈ Region.ready md ops done, n ≤ j) :
 ∀ (f : Nat) (done : Array Bool) (a : Act), HeadInv md ops n done →
  (∀ j oj, ops[j]? = some oj → j ≠ i → done.getD j true = false → (∀ e ∈ oj.after, Region.binds md e = true → e.on ≠ i) → oi.apart ops oj = true) →
  i ∈ Region.ready md ops done → YieldsIn P ops C oi v a →
  HeadQ P md ops C n L f (done.setIfInBounds i true) (a.put oi.dst v) → HeadQ P md ops C n L (f + 1) done a := by
 intro f
 induction f with
 | zero =>
   intro done a inv _ hr hy h
   have hun := (mem_ready.1 hr).1
   refine ⟨List.ne_nil_of_mem hr, fun j hj => ?_⟩
   have hjn : j < n := Nat.lt_of_not_le fun hle => tail_waits hs hc hn inv _ i rfl hin hun j hle hj
   refine ⟨hjn, ?_⟩
   by_cases e : j = i
   · rw [e]; exact hy.qOp hi h
   · exact absurd hjn (Nat.not_lt_of_le (hend _ _ h j (ready_mono hj e)))
 | succ f ih =>
   intro done a inv hfree hr hy h
   have hun := (mem_ready.1 hr).1
   refine ⟨List.ne_nil_of_mem hr, fun j hj => ?_⟩
   have hjn : j < n := Nat.lt_of_not_le fun hle => tail_waits hs hc hn inv _ i rfl hin hun j hle hj
   refine ⟨hjn, ?_⟩
   by_cases e : j = i
   · rw [e]; exact hy.qOp hi h
   · obtain ⟨hjun, oj, hoj, hall⟩ := mem_ready.1 hj
     have hno : ∀ x ∈ oj.after, Region.binds md x = true → x.on ≠ i := fun x hx hb hon => by
      have := hall x hx hb
      rw [hon, getD_both hun] at this
      exact Bool.noConfusion this
     have hput := qOp_put hoj (hfree j oj hoj e hjun hno) (fun cs b => hsel i oi cs b hi) (fun cs b => hsel j oj cs b hoj) hy (h.2 j (ready_mono hj e)).2
     refine qOp_mono (fun a' h3 => ih (done.setIfInBounds j true) a' (inv.set hj hjn) (fun k ok hk hki hunk hnok => hfree k ok hk hki ?_ hnok) (ready_mono hr (Ne.symm e)) h3.1 ?_) hput
     · by_cases hjk : j = k
       · rw [← hjk]; exact hjun
       · rwa [getD_set_ne true hjk] at hunk
     · rw [Array.setIfInBounds_comm _ _ e]; exact h3.2
theorem HeadQ.lex {n g : Nat} {R : Act → Prop} (hsel : Region.noSelect ops = true) (hs : Region.sinkB md ops n = true) (hc : Region.chainB md ops n = true) (hn : n < ops.size) :
 ∀ (l : List Oper) (k : Nat) (done : Array Bool) (a : Act), (∀ j, j < l.length → l[j]? = ops[k + j]?) → k + l.length = n → HeadInv md ops n done →
 Region.lexHead md ops g l.length k done = true → wpQuiet P ops C R l a → HeadQ P md ops C n (fun done' a' => Region.seqB md ops g n done' = true ∧ R a') l.length done a := by
 intro l
 induction l with
 | nil =>
   intro k done a _ hk _ hB h
   have hk : k = n := by simpa using hk
   rw [hk] at hB
   exact ⟨by simpa [Region.lexHead] using hB, h⟩
 | cons o l ih =>
   intro k done a hl hk inv hB h
   have h0 : ops[k]? = some o := by simpa using (hl 0 (by simp)).symm
   simp only [List.length_cons, Region.lexHead, Bool.and_eq_true] at hB hk
   have hr : k ∈ Region.ready md ops done := by simpa using hB.1.1
   have hq : qOp P ops C k (wpQuiet P ops C R l) a := by unfold qOp; simp only [h0]; exact h
   obtain ⟨v, hy, hK⟩ := yieldsIn_of_qOp h0 hq
   refine HeadQ.lead h0 (Region.noSelect_spec hsel) hs hc hn (by omega) (fun d a' hL => seqB_ready hL.1) l.length done a inv (Region.free_spec h0 hB.1.2) hr hy ?_
   exact ih (k + 1) _ _ (fun j hj => by have := hl (j + 1) (by simp; omega); simpa [Nat.add_assoc, Nat.add_comm 1 j] using this) (by omega) (inv.set hr (by omega)) hB.2 hK
theorem wp_region_quiet_tail {id : Nat} {Q : Exit → Act → World → Prop} {a : Act} {w : World} {l : List Oper} (n : Nat) (hm : P.follows .mixedOrders = true) (hB : Region.lexTailB .any l.toArray n = true) (hC : C w.drew)
 (h : wpQuiet P l.toArray C (fun a' => ∀ w', C w' → wpList P l.toArray Q (l.drop n) a' w') (l.take n) a) : (Code.region id l.toArray true).wp P Q a w := by
 simp only [Region.lexTailB, Bool.and_eq_true, decide_eq_true_eq] at hB
 obtain ⟨⟨⟨⟨hsel, hn⟩, hs⟩, hc⟩, hlex⟩ := hB
 have hn' : n < l.length := by simpa using hn
 have htl : (l.take n).length = n := by simp; omega
 have hdl : (l.drop n).length = l.toArray.size - n := by simp
 have inv0 : HeadInv .any l.toArray n (Array.replicate l.toArray.size false) :=
  ⟨by simp, fun j oj _ hl => (by rw [getD_replicate_false] at hl; cases hl), fun t _ ht => getD_in (by simpa using ht) (getD_replicate_false _ _)⟩
 have H := HeadQ.lex (md := .any) (g := l.toArray.size - n) hsel hs hc hn (l.take n) 0 _ a (fun j hj => by
  rw [htl] at hj
  simp [hj]) (by simpa using htl) inv0 (by rw [htl]; exact hlex) h
 refine wp_region_any hm ?_
 have := HeadQ.any (Q := Q) (g := l.toArray.size - n) (fun done a' w' hw' hL => by
  have := wpAny_of_seq (md := .any) (Q' := Q) (l.drop n) n done a' w' (fun j => by simp [List.getElem?_drop]) (by rw [hdl]; exact hL.1) (hL.2 w' hw')
  rwa [hdl] at this) _ _ _ _ hC H
 rw [htl, show n + (l.toArray.size - n) = l.toArray.size by omega] at this
 exact this
end
theorem wp_region_later_tail {P : Program} {id : Nat} {Q : Exit → Act → World → Prop} {a : Act} {w : World} {l : List Oper} (n : Nat) (hm : P.follows .mixedOrders = true) (hB : Region.lexTailB .any l.toArray n = true)
 (h : wpQuiet P l.toArray (fun w' => ∃ m : Later w, w' = m.world) (fun a' => ∀ w', (∃ m : Later w, w' = m.world) → wpList P l.toArray Q (l.drop n) a' w') (l.take n) a) : (Code.region id l.toArray true).wp P Q a w :=
 wp_region_quiet_tail (C := fun w' => ∃ m : Later w, w' = m.world) n hm hB ⟨⟨w.drew, ext_drew (ext_refl w)⟩, rfl⟩ h
end Go.Proofs.YtkcbgiegoadkbaaGreat
namespace Go.Proofs.YtkcbgiegoadkbaaGreat
open Go.RowKit
set_option linter.unusedVariables false
set_option linter.unusedSimpArgs false
set_option maxHeartbeats 4000000 in
theorem isSchool_any (day pa le : Int) (A : Option Addr) (n c : Nat) (l : List R5) (w : World) (hn : n ≤ 1048576) (h : Reads w w.heap.size 5 A n (rowsV l)) :
 Calls Tryz.prog 55 #[schV day A n c pa le] w fun e w' => e = .returned (.bool (schB day l pa le)) ∧ Below w.heap.size w w' := by
 have hl := rows_len h
 have HS := Lib.hid (sch_of day l pa le hl)
 have H := Lib.hid h
 have HL := Lib.hid hl
 clear h hl
 have HD := Lib.hid (fun w => isDay_any day w)
 have HP := Lib.hid (fun w => isCount_any pa w)
 have HQ := Lib.hid (fun w => isCount_any le w)
 rw [HS.out]
 generalize inB day 0 4000 = b1 at HD ⊢
 generalize inB pa 0 9999 = b3 at HP ⊢
 generalize inB le 0 9999 = b4 at HQ ⊢
 cases b1
 · skip
   go_enter Tryz.func55, Tryz.ntmps55
   go_wp2_with fail
   refine (HD.out _).mono ?_
   rintro e w1 ⟨rfl, rfl⟩
   go_wp2
   go_ret
   exact ⟨rfl, (by repeat (first | exact ext_refl _ | assumption | refine ext_alloc ?_ _ | refine ext_drew ?_ | refine ext_drewN ?_ _ | refine ext_set ?_ (by simp <;> omega) _ | refine ext_trans ?_ (by assumption)))⟩
 by_cases h8 : 8 < n
 · rw [show decide (n ≤ 8) = false from by simp; omega]
   go_enter Tryz.func55, Tryz.ntmps55
   go_wp2_with fail
   refine (HD.out _).mono ?_
   rintro e w1 ⟨rfl, rfl⟩
   go_wp2
   go_ret
   exact ⟨rfl, (by repeat (first | exact ext_refl _ | assumption | refine ext_alloc ?_ _ | refine ext_drew ?_ | refine ext_drewN ?_ _ | refine ext_set ?_ (by simp <;> omega) _ | refine ext_trans ?_ (by assumption)))⟩
 rw [show decide (n ≤ 8) = true from by simp; omega]
 cases b3
 · skip
   go_enter Tryz.func55, Tryz.ntmps55
   go_wp2_with fail
   refine (HD.out _).mono ?_
   rintro e w1 ⟨rfl, rfl⟩
   go_wp2_with fail
   refine (HP.out _).mono ?_
   rintro e w1 ⟨rfl, rfl⟩
   go_wp2
   go_ret
   exact ⟨rfl, (by repeat (first | exact ext_refl _ | assumption | refine ext_alloc ?_ _ | refine ext_drew ?_ | refine ext_drewN ?_ _ | refine ext_set ?_ (by simp <;> omega) _ | refine ext_trans ?_ (by assumption)))⟩
 cases b4
 · skip
   go_enter Tryz.func55, Tryz.ntmps55
   go_wp2_with fail
   refine (HD.out _).mono ?_
   rintro e w1 ⟨rfl, rfl⟩
   go_wp2_with fail
   refine (HP.out _).mono ?_
   rintro e w1 ⟨rfl, rfl⟩
   go_wp2_with fail
   refine (HQ.out _).mono ?_
   rintro e w1 ⟨rfl, rfl⟩
   go_wp2
   go_ret
   exact ⟨rfl, (by repeat (first | exact ext_refl _ | assumption | refine ext_alloc ?_ _ | refine ext_drew ?_ | refine ext_drewN ?_ _ | refine ext_set ?_ (by simp <;> omega) _ | refine ext_trans ?_ (by assumption)))⟩
 go_enter Tryz.func55, Tryz.ntmps55
 go_wp2_with fail
 refine (HD.out _).mono ?_
 rintro e w1 ⟨rfl, rfl⟩
 go_wp2_with fail
 refine (HP.out _).mono ?_
 rintro e w1 ⟨rfl, rfl⟩
 go_wp2_with fail
 refine (HQ.out _).mono ?_
 rintro e w1 ⟨rfl, rfl⟩
 go_wp2
 have hsz : w.heap.size + 1 = (w.alloc (.cells #[.int .i64 day, .slice A n c, .int .i64 pa, .int .i64 le] 32)).heap.size := by simp
 have HSZ := Lib.hid hsz
 have HB0 : Hid ((w.alloc (.cells #[.int .i64 day, .slice A n c, .int .i64 pa, .int .i64 le] 32)).cell? ⟨w.heap.size, 1, none⟩ = some (.slice A n c)) := Lib.hid (by simp [go_sem])
 clear hsz
 go_loopw [30] (fun i wr => ∃ k : Nat, k ≤ n ∧ i = .int .i64 k ∧ Hid (Below (w.alloc (.cells #[.int .i64 day, .slice A n c, .int .i64 pa, .int .i64 le] 32)).heap.size (w.alloc (.cells #[.int .i64 day, .slice A n c, .int .i64 pa, .int .i64 le] 32)) wr) ∧ Hid (okTo l k = true)) (fun i _ => n - (intOf i).toNat)
 case atStart => exact ⟨0, Nat.zero_le _, rfl, Lib.hid (ext_refl _), Lib.hid rfl⟩
 case round =>
  obtain ⟨k, hk, rfl, hbl, hok⟩ := hrel
  have hss : w.heap.size < wr.heap.size := by have := hbl.out.size; rw [← HSZ.out] at this; omega
  have hbw := Lib.hid (ext_trans (ext_alloc (ext_refl w) _) hbl.out)
  have p1 : wr.cell? ⟨w.heap.size, 1, none⟩ = some (.slice A n c) := ext_cell hbl.out HB0.out
  by_cases hlt : k < n
  · obtain ⟨r, hr⟩ := list_split (l := l) (k := k) (by rw [HL.out]; exact hlt)
    obtain ⟨b, o, hA, hb, c0, c1, c2, c3, c4⟩ := rows_at (H.out.ext hbw.out (Nat.le_refl _)) hr
    subst hA
    have hbw2 : b < wr.heap.size := by omega
    have hne : b ≠ w.heap.size := by omega
    rcases stu_cases r with ⟨hrow, g1, g2, g3, g4, g5⟩ | hbad
    · have hrow := Lib.hid hrow
      by_cases h0 : k = 0
      · have hgood := Lib.hid (show okAt l k = true by subst h0; exact okAt_zero hr hrow.out)
        have hk0 : decide (0 < k) = false := by simp; omega
        clear hr h0
        go_wp2_with (go_at_call 37; refine (inB_within _ _ _ _).mono ?_; rintro e w' ⟨rfl, rfl⟩)
        (refine wp_region_later (by kernel_rfl) (by kernel_rfl) ?_; (repeat (go_big_quiet_step (fail))); refine wpQuiet_nil ?_; intro w1 hw1; obtain ⟨⟨wl, hbL⟩, hw1'⟩ := hw1; simp only at hw1'; subst hw1'; obtain ⟨hcL, hfL⟩ := bcell hbL)
        have hbl2 := Lib.hid (hbl.out.trans ((ext_trans (ext_alloc (ext_refl wr) _) hbL).mono hbl.out.size))
        clear hcL hfL hbL
        go_wp2
        go_roundw
        case rel => exact ⟨k + 1, by omega, by go_num, hbl2, Lib.hid (by rw [okTo_succ, hok.out, hgood.out]; rfl)⟩
        case measure => simp [intOf]; omega
      · obtain ⟨s, hs⟩ := list_split (l := l) (k := k - 1) (by rw [HL.out]; omega)
        obtain ⟨b', o', hA, hb', d0, d1, d2, d3, d4⟩ := rows_at (H.out.ext hbw.out (Nat.le_refl _)) hs
        injection hA with hA
        injection hA with hA1 hA2
        subst hA1 hA2
        have hat := Lib.hid (okAt_pos hr hrow.out (by omega) hs)
        have hk0 : decide (0 < k) = true := by simp; omega
        have hk1 : (1 : Int) ≤ k := by omega
        clear hr hs
        by_cases hlt2 : s.a < r.a
        · have hd : decide (r.a ≤ s.a) = false := by simp; omega
          go_wp2_with (go_at_call 37; refine (inB_within _ _ _ _).mono ?_; rintro e w' ⟨rfl, rfl⟩)
          (refine wp_region_later (by kernel_rfl) (by kernel_rfl) ?_; (repeat (go_big_quiet_step (fail))); refine wpQuiet_nil ?_; intro w1 hw1; obtain ⟨⟨wl, hbL⟩, hw1'⟩ := hw1; simp only at hw1'; subst hw1'; obtain ⟨hcL, hfL⟩ := bcell hbL)
          have hbl2 := Lib.hid (hbl.out.trans ((ext_trans (ext_alloc (ext_refl wr) _) hbL).mono hbl.out.size))
          clear hcL hfL hbL
          go_wp2
          go_roundw
          case rel => exact ⟨k + 1, by omega, by go_num, hbl2, Lib.hid (by rw [okTo_succ, hok.out, hat.out]; simpa using hlt2)⟩
          case measure => simp [intOf]; omega
        · have hd : decide (r.a ≤ s.a) = true := by simp; omega
          have hb2 := Lib.hid (okTo_not (by rw [HL.out]; exact hlt) (hat.out.trans (by simpa using hlt2)))
          go_wp2_with (go_at_call 37; refine (inB_within _ _ _ _).mono ?_; rintro e w' ⟨rfl, rfl⟩)
          (refine wp_region_later (by kernel_rfl) (by kernel_rfl) ?_; (repeat (go_big_quiet_step (fail))); refine wpQuiet_nil ?_; intro w1 hw1; obtain ⟨⟨wl, hbL⟩, hw1'⟩ := hw1; simp only at hw1'; subst hw1'; obtain ⟨hcL, hfL⟩ := bcell hbL)
          have hbl2 := Lib.hid (hbl.out.trans ((ext_trans (ext_alloc (ext_refl wr) _) hbL).mono hbl.out.size))
          clear hcL hfL hbL
          go_wp2
          go_ret
          exact ⟨ret_bool (by rw [(HL.out ▸ hb2.out : okTo l n = false)]; rfl), ext_trans (ext_alloc (ext_refl w) _) hbl2.out⟩
    · have hb2 : Hid (okTo l l.length = false) := Lib.hid (okTo_not (by rw [HL.out]; exact hlt) (okAt_bad hr (by rcases hbad with h | h | h | h | h <;> exact h.1)))
      clear hr
      rcases hbad with ⟨_, g1⟩ | ⟨_, g1, g2⟩ | ⟨_, g1, g2, g3⟩ | ⟨_, g1, g2, g3, g4⟩ | ⟨_, g1, g2, g3, g4, g5⟩
      all_goals
       have hbl2 := Lib.hid (hbl.out.trans ((ext_alloc (ext_refl wr) (.cells #[.int .i64 r.a, .int .i64 r.b, .int .i64 r.c, .int .i64 r.d, .int .i64 r.e] 111)).mono hbl.out.size))
       go_wp2_with (go_at_call 37; refine (inB_within _ _ _ _).mono ?_; rintro e w' ⟨rfl, rfl⟩)
       go_ret
       exact ⟨ret_bool (by rw [(HL.out ▸ hb2.out : okTo l n = false)]; rfl), ext_trans (ext_alloc (ext_refl w) _) hbl2.out⟩
  · obtain rfl : k = n := by omega
    go_wp2
    go_ret
    exact ⟨ret_bool (by rw [hok.out]; rfl), hbw.out⟩
end Go.Proofs.YtkcbgiegoadkbaaGreat
namespace Go.Proofs.YtkcbgiegoadkbaaGreat
open Go.RowKit
set_option linter.unusedVariables false
set_option linter.unusedSimpArgs false
theorem step_append_own' {P : Program} {w : World} {ops : Array Oper} {o : Oper} {a : Act} {K : Act → World → Prop} {Q : Exit → Act → World → Prop} {E : Prop} (hgd : o.guard = none) (s x : Operand) (t : TypeId)
 (ho : o.op = .call { callee := .builtin .append, args := #[s, x], argTypes := #[t, t] })
 (base : Nat) (e : TypeId) (i : TypeInfo) (z : Value) (size bytes : Nat) (ht : P.underlying t = some (.slice e)) (hi : P.info? e = some i) (hz : i.zero = some z)
 (hsize : i.size = size) (hby : i.bytes = bytes) (hzs : z.cells.size = size) (hsz : 0 < size)
 (v : Value) (n : Nat) (xs : List Value) (hs : a.eval s = v) (hown : w.ownsRow base e size v n xs)
 (ad : Addr) (m c : Nat) (news : List Value) (hx : a.eval x = .slice (some ad) m c) (hl : news.length = m * size) (hnews : ∀ j u, news[j]? = some u → w.cell? (ad.add j) = some u) (h1 : ∀ u ∈ news, u.oneCell' = true)
 (h63 : n + m ≤ maxLen) (hbytes : (n + m) * bytes ≤ 140737488355328) (hbase : base ≤ w.heap.size)
 (h : ∀ v' w', w'.ownsRow base e size v' (n + m) (xs ++ news) → w.grownBy w' v.ownBlock → K (a.put o.dst v') w') :
 if Region.wanted o (yielded ops a.tmps) = true then Oper.wp P o a w K Q else E := by
 rw [if_pos (by simp [Region.wanted, hgd])]
 exact wp_append_own w s x t ho base e i z size bytes ht hi hz hsize hby hzs hsz v n xs hs hown ad m c news hx hl hnews h1 h63 hbytes hbase (fun v' w' a b _ => h v' w' a b)
set_option maxHeartbeats 2000000 in
theorem l25Own_any (day pa le : Int) (A : Option Addr) (n c : Nat) (l : List R5) (w : World) (hn : n ≤ 1048576) (hA : SlOk A n c) (h : Reads w w.heap.size 5 A n (rowsV l)) :
 Calls Tryz.prog 69 #[schV day A n c pa le] w (OwnRet day pa le n l w) := by
 obtain ⟨i0, ji, jz0, jz1, jz2⟩ := info_parts info_stu
 have hl := rows_len h
 obtain ⟨W, hW⟩ : ∃ W, W = (((w.alloc (.cells #[.int .i64 day, .slice A n c, .int .i64 pa, .int .i64 le] 32)).alloc (.cells #[.int .i64 0, .slice none 0 0, .int .i64 0, .int .i64 0] 32)).alloc (.cells #[] 111)).drew := ⟨_, rfl⟩
 have hlen : (rowsV l).length = n * 5 := h.1
 have BX : Blk W w.heap.size 32 #[.int .i64 day, .slice A n c, .int .i64 pa, .int .i64 le] := by rw [hW]; exact (((Blk.new w _ _).ext (ext_alloc (ext_refl _) _)).ext (ext_alloc (ext_refl _) _)).ext (ext_drew (ext_refl _))
 have BR : Blk W (w.heap.size + 1) 32 #[.int .i64 0, .slice none 0 0, .int .i64 0, .int .i64 0] := by
  rw [hW]
  have := (Blk.new (w.alloc (.cells #[.int .i64 day, .slice A n c, .int .i64 pa, .int .i64 le] 32)) #[.int .i64 0, .slice none 0 0, .int .i64 0, .int .i64 0] 32).ext (ext_drew (ext_alloc (ext_refl _) (.cells #[] 111)))
  simpa using this
 have hbW : Below w.heap.size w W := by rw [hW]; exact ext_drew (ext_alloc (ext_alloc (ext_alloc (ext_refl _) _) _) _)
 have hown : W.ownsRow (w.heap.size + 1 + 1) 111 5 (.slice (some ⟨w.heap.size + 1 + 1, 0, none⟩) 0 0) 0 [] := by
  rw [hW]
  have := own_lit0 ((w.alloc (.cells #[.int .i64 day, .slice A n c, .int .i64 pa, .int .i64 le] 32)).alloc (.cells #[.int .i64 0, .slice none 0 0, .int .i64 0, .int .i64 0] 32)) 111 5
  have := this.drew
  simpa using this
 have HX := Lib.hid BX
 have HR := Lib.hid BR
 have HO := Lib.hid hown
 have HB := Lib.hid hbW
 have HSZ : Hid (w.heap.size + 1 + 1 + 1 = W.heap.size) := Lib.hid (by rw [hW]; simp)
 have hrW := h.ext hbW (Nat.le_refl _)
 have HRW := Lib.hid hrW
 have HW := Lib.hid hW
 clear BX BR hown hbW hrW h
 have M1 : Hid (0 + n ≤ maxLen) := Lib.hid (by unfold maxLen; omega)
 have M2 : Hid ((0 + n) * 40 ≤ 140737488355328) := Lib.hid (by omega)
 have HLN := Lib.hid hlen
 clear hlen hW
 rcases A with _ | ad
 · obtain ⟨rfl, rfl⟩ := hA rfl
   have hl0 : l = [] := List.length_eq_zero_iff.1 hl
   subst hl0
   go_enter Tryz.func69, Tryz.ntmps69
   go_wp2_with fail
   go_region_held3 (fun w' => w'.cell? ⟨w.heap.size, 0, none⟩ = some (.int .i64 day) ∧ w'.cell? ⟨w.heap.size, 1, none⟩ = some (.slice none 0 0) ∧ w'.cell? ⟨w.heap.size, 2, none⟩ = some (.int .i64 pa) ∧ w'.cell? ⟨w.heap.size, 3, none⟩ = some (.int .i64 le)) (go_keep) (fail)
   go_wp2
   refine bodyPost_ret (v := schV day (some ⟨w.heap.size + 1 + 1, 0, none⟩) 0 0 pa le) (by simp [results, Tryz.results69, go_sem]) rfl ⟨_, _, rfl, own_base (base := w.heap.size + 1 + 1) (by have := (own_lit0 ((w.alloc (.cells #[.int .i64 day, .slice none 0 0, .int .i64 pa, .int .i64 le] 32)).alloc (.cells #[.int .i64 day, .slice (some ⟨w.heap.size + 1 + 1, 0, none⟩) 0 0, .int .i64 pa, .int .i64 le] 32)) 111 5).drew; simpa [rowsV] using this) (by omega), ext_drew (ext_alloc (ext_alloc (ext_alloc (ext_refl _) _) _) _)⟩
 · have hnews := Lib.hid (reads_news HRW.out)
   go_enter Tryz.func69, Tryz.ntmps69
   go_wp2_with fail
   go_region_held3 (fun w' => w'.cell? ⟨w.heap.size, 0, none⟩ = some (.int .i64 day) ∧ w'.cell? ⟨w.heap.size, 1, none⟩ = some (.slice (some ad) n c) ∧ w'.cell? ⟨w.heap.size, 2, none⟩ = some (.int .i64 pa) ∧ w'.cell? ⟨w.heap.size, 3, none⟩ = some (.int .i64 le)) (first | (go_split_ands; refine ⟨?_, ?_, ?_, ?_⟩ <;> first | with_reducible assumption | (refine cell_set_far (by simp <;> omega) ?_; with_reducible assumption) | (repeat refine cell_set_far (by simp <;> omega) ?_) <;> with_reducible assumption) | go_keep)
    ((rw [← HW.out]; refine step_append_own' (by rfl) (.tmp 5) (.tmp 7) 30 (by rfl) (w.heap.size + 1 + 1) 111 i0 _ 5 40 Tryz.underlying30 ji jz0 jz1 jz2 rfl (by decide) _ 0 [] (by rfl) HO.out ad n c (rowsV l) (by rfl) HLN.out hnews.out (rows_one l) M1.out M2.out (by have := HSZ.out; omega) ?_; intro v' w1 hown1 hgrow1; change W.grownBy w1 (some (w.heap.size + 1 + 1)) at hgrow1; have HX1 := HX.out.grown hgrow1 (by intro e; injection e with e; omega); have HR1 := HR.out.grown hgrow1 (by intro e; injection e with e; omega); have hb1 := Lib.hid (below_grown' HO.out (by omega) HB.out hgrow1); rw [Nat.zero_add, List.nil_append] at hown1; obtain ⟨A', c', rfl⟩ := own_shape hown1; have HO1 := Lib.hid hown1; clear hgrow1 hown1; obtain ⟨x0, x1, x2, x3⟩ := HX1.q4; obtain ⟨fx0, fx1, fx2, fx3⟩ := HX1.z4; obtain ⟨r0, r1, r2, r3⟩ := HR1.q4; obtain ⟨fr0, fr1, fr2, fr3⟩ := HR1.z4; clear HX1 HR1))
   go_wp2
   refine bodyPost_ret (v := schV day A' n c' pa le) (by simp [results, Tryz.results69, go_sem, *]) rfl ⟨A', c', rfl, own_base (base := w.heap.size + 1 + 1) ?_ (by omega), ?_⟩
   · repeat refine own_set ?_ (by first | (show w.heap.size < w.heap.size + 1 + 1; omega) | (show w.heap.size + 1 < w.heap.size + 1 + 1; omega)) _
     exact HO1.out
   · repeat refine ext_set ?_ (by first | exact Nat.le_refl _ | exact Nat.le_succ _) _
     exact hb1.out
end Go.Proofs.YtkcbgiegoadkbaaGreat
namespace Go.Proofs.YtkcbgiegoadkbaaGreat
open Go.RowKit
set_option linter.unusedVariables false
set_option linter.unusedSimpArgs false
set_option maxHeartbeats 4000000 in
theorem l25Good_any (day pa le : Int) (A : Option Addr) (n c : Nat) (l : List R5) (w : World) (hn : n ≤ 1048576) (h : Reads w w.heap.size 5 A n (rowsV l)) :
 Calls Tryz.prog 70 #[schV day A n c pa le] w fun e w' => e = .returned (.bool (schB day l pa le)) ∧ Below w.heap.size w w' := by
 have hl := rows_len h
 have HS := Lib.hid (sch_of day l pa le hl)
 have H := Lib.hid h
 have HL := Lib.hid hl
 clear h hl
 have HD := Lib.hid (fun w => l2Day_any day w)
 have HP := Lib.hid (fun w => inB_l1In pa 0 9999 w)
 have HQ := Lib.hid (fun w => inB_l1In le 0 9999 w)
 rw [HS.out]
 generalize inB day 0 4000 = b1 at HD ⊢
 generalize inB pa 0 9999 = b3 at HP ⊢
 generalize inB le 0 9999 = b4 at HQ ⊢
 cases b1
 · skip
   go_enter Tryz.func70, Tryz.ntmps70
   go_wp2_with fail
   refine (HD.out _).mono ?_
   rintro e w1 ⟨rfl, rfl⟩
   go_wp2
   go_ret
   exact ⟨rfl, (by repeat (first | exact ext_refl _ | assumption | refine ext_alloc ?_ _ | refine ext_drew ?_ | refine ext_drewN ?_ _ | refine ext_set ?_ (by simp <;> omega) _ | refine ext_trans ?_ (by assumption)))⟩
 by_cases h8 : 8 < n
 · rw [show decide (n ≤ 8) = false from by simp; omega]
   go_enter Tryz.func70, Tryz.ntmps70
   go_wp2_with fail
   refine (HD.out _).mono ?_
   rintro e w1 ⟨rfl, rfl⟩
   go_wp2
   go_ret
   exact ⟨rfl, (by repeat (first | exact ext_refl _ | assumption | refine ext_alloc ?_ _ | refine ext_drew ?_ | refine ext_drewN ?_ _ | refine ext_set ?_ (by simp <;> omega) _ | refine ext_trans ?_ (by assumption)))⟩
 rw [show decide (n ≤ 8) = true from by simp; omega]
 cases b3
 · skip
   go_enter Tryz.func70, Tryz.ntmps70
   go_wp2_with fail
   refine (HD.out _).mono ?_
   rintro e w1 ⟨rfl, rfl⟩
   go_wp2_with fail
   refine (HP.out _).mono ?_
   rintro e w1 ⟨rfl, rfl⟩
   go_wp2
   go_ret
   exact ⟨rfl, (by repeat (first | exact ext_refl _ | assumption | refine ext_alloc ?_ _ | refine ext_drew ?_ | refine ext_drewN ?_ _ | refine ext_set ?_ (by simp <;> omega) _ | refine ext_trans ?_ (by assumption)))⟩
 cases b4
 · skip
   go_enter Tryz.func70, Tryz.ntmps70
   go_wp2_with fail
   refine (HD.out _).mono ?_
   rintro e w1 ⟨rfl, rfl⟩
   go_wp2_with fail
   refine (HP.out _).mono ?_
   rintro e w1 ⟨rfl, rfl⟩
   go_wp2_with fail
   refine (HQ.out _).mono ?_
   rintro e w1 ⟨rfl, rfl⟩
   go_wp2
   go_ret
   exact ⟨rfl, (by repeat (first | exact ext_refl _ | assumption | refine ext_alloc ?_ _ | refine ext_drew ?_ | refine ext_drewN ?_ _ | refine ext_set ?_ (by simp <;> omega) _ | refine ext_trans ?_ (by assumption)))⟩
 go_enter Tryz.func70, Tryz.ntmps70
 go_wp2_with fail
 refine (HD.out _).mono ?_
 rintro e w1 ⟨rfl, rfl⟩
 go_wp2_with fail
 refine (HP.out _).mono ?_
 rintro e w1 ⟨rfl, rfl⟩
 go_wp2_with fail
 refine (HQ.out _).mono ?_
 rintro e w1 ⟨rfl, rfl⟩
 go_wp2
 have hsz : w.heap.size + 1 = (w.alloc (.cells #[.int .i64 day, .slice A n c, .int .i64 pa, .int .i64 le] 32)).heap.size := by simp
 have HSZ := Lib.hid hsz
 have HB0 : Hid ((w.alloc (.cells #[.int .i64 day, .slice A n c, .int .i64 pa, .int .i64 le] 32)).cell? ⟨w.heap.size, 1, none⟩ = some (.slice A n c)) := Lib.hid (by simp [go_sem])
 clear hsz
 go_loopw [3] (fun i wr => ∃ k : Nat, k ≤ n ∧ i = .int .i64 k ∧ Hid (Below (w.alloc (.cells #[.int .i64 day, .slice A n c, .int .i64 pa, .int .i64 le] 32)).heap.size (w.alloc (.cells #[.int .i64 day, .slice A n c, .int .i64 pa, .int .i64 le] 32)) wr) ∧ Hid (okTo l k = true)) (fun i _ => n - (intOf i).toNat)
 case atStart => exact ⟨0, Nat.zero_le _, rfl, Lib.hid (ext_refl _), Lib.hid rfl⟩
 case round =>
  obtain ⟨k, hk, rfl, hbl, hok⟩ := hrel
  have hss : w.heap.size < wr.heap.size := by have := hbl.out.size; rw [← HSZ.out] at this; omega
  have hbw := Lib.hid (ext_trans (ext_alloc (ext_refl w) _) hbl.out)
  have p1 : wr.cell? ⟨w.heap.size, 1, none⟩ = some (.slice A n c) := ext_cell hbl.out HB0.out
  by_cases hlt : k < n
  · obtain ⟨r, hr⟩ := list_split (l := l) (k := k) (by rw [HL.out]; exact hlt)
    obtain ⟨b, o, hA, hb, c0, c1, c2, c3, c4⟩ := rows_at (H.out.ext hbw.out (Nat.le_refl _)) hr
    subst hA
    have hbw2 : b < wr.heap.size := by omega
    have hne : b ≠ w.heap.size := by omega
    rcases stu_cases r with ⟨hrow, g1, g2, g3, g4, g5⟩ | hbad
    · have hrow := Lib.hid hrow
      by_cases h0 : k = 0
      · have hgood := Lib.hid (show okAt l k = true by subst h0; exact okAt_zero hr hrow.out)
        have hk0 : decide (0 < k) = false := by simp; omega
        clear hr h0
        go_wp2
        (refine wp_region_later (by kernel_rfl) (by kernel_rfl) ?_; (repeat (go_big_quiet_step (first | (go_at_call 82; exact Calls.later_same (inB_l1In _ _ _ _))))); refine wpQuiet_nil ?_; intro w1 hw1; obtain ⟨⟨wl, hbL⟩, hw1'⟩ := hw1; simp only at hw1'; subst hw1'; obtain ⟨hcL, hfL⟩ := bcell hbL)
        have hbl2 := Lib.hid (hbl.out.trans ((ext_trans (ext_alloc (ext_refl wr) _) hbL).mono hbl.out.size))
        clear hcL hfL hbL
        go_wp2
        go_roundw
        case rel => exact ⟨k + 1, by omega, by go_num, hbl2, Lib.hid (by rw [okTo_succ, hok.out, hgood.out]; rfl)⟩
        case measure => simp [intOf]; omega
      · obtain ⟨s, hs⟩ := list_split (l := l) (k := k - 1) (by rw [HL.out]; omega)
        obtain ⟨b', o', hA, hb', d0, d1, d2, d3, d4⟩ := rows_at (H.out.ext hbw.out (Nat.le_refl _)) hs
        injection hA with hA
        injection hA with hA1 hA2
        subst hA1 hA2
        have hat := Lib.hid (okAt_pos hr hrow.out (by omega) hs)
        have hk0 : decide (0 < k) = true := by simp; omega
        have hk1 : (1 : Int) ≤ k := by omega
        clear hr hs
        by_cases hlt2 : s.a < r.a
        · have hd : decide (r.a ≤ s.a) = false := by simp; omega
          go_wp2
          (refine wp_region_later (by kernel_rfl) (by kernel_rfl) ?_; (repeat (go_big_quiet_step (first | (go_at_call 82; exact Calls.later_same (inB_l1In _ _ _ _))))); refine wpQuiet_nil ?_; intro w1 hw1; obtain ⟨⟨wl, hbL⟩, hw1'⟩ := hw1; simp only at hw1'; subst hw1'; obtain ⟨hcL, hfL⟩ := bcell hbL)
          have hbl2 := Lib.hid (hbl.out.trans ((ext_trans (ext_alloc (ext_refl wr) _) hbL).mono hbl.out.size))
          clear hcL hfL hbL
          go_wp2
          go_roundw
          case rel => exact ⟨k + 1, by omega, by go_num, hbl2, Lib.hid (by rw [okTo_succ, hok.out, hat.out]; simpa using hlt2)⟩
          case measure => simp [intOf]; omega
        · have hd : decide (r.a ≤ s.a) = true := by simp; omega
          have hb2 := Lib.hid (okTo_not (by rw [HL.out]; exact hlt) (hat.out.trans (by simpa using hlt2)))
          go_wp2
          (refine wp_region_later (by kernel_rfl) (by kernel_rfl) ?_; (repeat (go_big_quiet_step (first | (go_at_call 82; exact Calls.later_same (inB_l1In _ _ _ _))))); refine wpQuiet_nil ?_; intro w1 hw1; obtain ⟨⟨wl, hbL⟩, hw1'⟩ := hw1; simp only at hw1'; subst hw1'; obtain ⟨hcL, hfL⟩ := bcell hbL)
          have hbl2 := Lib.hid (hbl.out.trans ((ext_trans (ext_alloc (ext_refl wr) _) hbL).mono hbl.out.size))
          clear hcL hfL hbL
          go_wp2
          go_ret
          exact ⟨ret_bool (by rw [(HL.out ▸ hb2.out : okTo l n = false)]; rfl), ext_trans (ext_alloc (ext_refl w) _) hbl2.out⟩
    · have hb2 : Hid (okTo l l.length = false) := Lib.hid (okTo_not (by rw [HL.out]; exact hlt) (okAt_bad hr (by rcases hbad with h | h | h | h | h <;> exact h.1)))
      clear hr
      rcases hbad with ⟨_, g1⟩ | ⟨_, g1, g2⟩ | ⟨_, g1, g2, g3⟩ | ⟨_, g1, g2, g3, g4⟩ | ⟨_, g1, g2, g3, g4, g5⟩
      all_goals
       go_wp2
       (refine wp_region_later (by kernel_rfl) (by kernel_rfl) ?_; (repeat (go_big_quiet_step (first | (go_at_call 82; exact Calls.later_same (inB_l1In _ _ _ _))))); refine wpQuiet_nil ?_; intro w1 hw1; obtain ⟨⟨wl, hbL⟩, hw1'⟩ := hw1; simp only at hw1'; subst hw1'; obtain ⟨hcL, hfL⟩ := bcell hbL)
       have hbl2 := Lib.hid (hbl.out.trans ((ext_trans (ext_alloc (ext_refl wr) _) hbL).mono hbl.out.size))
       clear hcL hfL hbL
       go_wp2
       go_ret
       exact ⟨ret_bool (by rw [(HL.out ▸ hb2.out : okTo l n = false)]; rfl), ext_trans (ext_alloc (ext_refl w) _) hbl2.out⟩
  · obtain rfl : k = n := by omega
    go_wp2
    go_ret
    exact ⟨ret_bool (by rw [hok.out]; rfl), hbw.out⟩
end Go.Proofs.YtkcbgiegoadkbaaGreat
namespace Go.Proofs.YtkcbgiegoadkbaaGreat
open Go.RowKit
set_option linter.unusedVariables false
set_option linter.unusedSimpArgs false
theorem sch_stu {day pa le : Int} {l : List R5} (h : schB day l pa le = true) {k : Nat} {r : R5} (hr : l[k]? = some r) : stuB r = true := by
 simp only [schB, Bool.and_eq_true] at h
 have h2 := h.2
 rw [okTo, List.all_eq_true] at h2
 have hk := (List.getElem?_eq_some_iff.1 hr).1
 have := h2 k (by simpa using hk)
 rw [okAt, hr] at this
 simp only [Bool.and_eq_true] at this
 exact this.1
set_option maxRecDepth 100000 in
set_option maxHeartbeats 2000000 in
theorem studentText_yes (day pa le id : Int) (A : Option Addr) (n c : Nat) (l : List R5) (w : World) (hn : n ≤ 1048576) (h : Reads w w.heap.size 5 A n (rowsV l)) (hs : schB day l pa le = true) (k : Nat) (r : R5) (hf : findI l id = k) (hr : l[k]? = some r) :
 Calls Tryz.prog 61 #[schV day A n c pa le, .int .i64 id] w fun e w' => e = .returned (.tuple #[.string (stuT r), .bool true]) ∧ Below w.heap.size w w' := by
 obtain ⟨_, h2, h3, h4, h5⟩ := stu_bounds (sch_stu hs hr)
 have z1 := decI_size r.b
 have z2 := decI_size r.c
 have z3 := decI_size r.d
 have z4 := decI_size r.e
 have hE : Hid (stuT r = ⟨#[103, 114, 97, 100, 101, 32]⟩ ++ decI r.b ++ ⟨#[32, 104, 111, 117, 114, 115, 32]⟩ ++ decI r.c ++ ⟨#[32, 112, 97, 105, 100, 32]⟩ ++ decI r.d ++ ⟨#[32, 102, 97, 105, 108, 115, 32]⟩ ++ decI r.e) := Lib.hid rfl
 rw [hE.out]
 clear hE
 have hA := Lib.hid (fun w h => at_any day pa le id A n c l w hn h)
 have hI := Lib.hid (fun w h => isSchool_any day pa le A n c l w hn h)
 rw [hf] at hA
 rw [hs] at hI
 obtain ⟨b, o, hAd, hb, c0, c1, c2, c3, c4⟩ := rows_at h hr
 subst hAd
 have hkn : (k : Int) < n := by have := (List.getElem?_eq_some_iff.1 hr).1; have := rows_len h; omega
 have H := Lib.hid h
 clear h hs hf hr
 have b1 : -9223372036854775807 ≤ r.b ∧ r.b ≤ 9223372036854775807 := by omega
 have b2 : -9223372036854775807 ≤ r.c ∧ r.c ≤ 9223372036854775807 := by omega
 have b3 : -9223372036854775807 ≤ r.d ∧ r.d ≤ 9223372036854775807 := by omega
 have b4 : -9223372036854775807 ≤ r.e ∧ r.e ≤ 9223372036854775807 := by omega
 go_enter Tryz.func61, Tryz.ntmps61
 go_wp2_with fail
 refine (hA.out _ ((H.out.ext (ext_alloc (ext_refl _) _) (Nat.le_refl _)).more (by simp))).mono ?_
 rintro e w1 ⟨rfl, hb1⟩
 obtain ⟨hc1, hf1⟩ := bcell hb1
 have s1 : w.heap.size < w1.heap.size := by have := hb1.size; simp at this; omega
 have hw1 := Lib.hid (ext_trans (ext_alloc (ext_refl w) _) hb1)
 clear hb1
 go_wp2_with fail
 refine (hI.out _ ((H.out.ext hw1.out (Nat.le_refl _)).more (Nat.le_of_lt s1))).mono ?_
 rintro e w2 ⟨rfl, hb2⟩
 obtain ⟨hc2, hf2⟩ := bcell hb2
 have s2 : w.heap.size < w2.heap.size := by have := hb2.size; omega
 have s3 : b < w1.heap.size := by omega
 have s4 : b < w2.heap.size := by omega
 have hne : b ≠ w.heap.size := by omega
 have hw2 := Lib.hid (ext_trans hw1.out hb2)
 clear hb2
 go_wp2
 (refine wp_region_later (by kernel_rfl) (by kernel_rfl) ?_; (repeat (go_big_quiet_step ((go_at_call 62; exact Calls.later_of (text_any _ _ (by omega) (by omega)))))); refine wpQuiet_nil ?_; intro w1 hw1; obtain ⟨⟨wl, hbL⟩, hw1'⟩ := hw1; simp only at hw1'; subst hw1'; obtain ⟨hcL, hfL⟩ := bcell hbL)
 have hw3 := Lib.hid (ext_trans (ext_alloc hw2.out _) hbL)
 clear hcL hfL
 go_wp2
 go_ret2
 exact ⟨rfl, hw3.out⟩
end Go.Proofs.YtkcbgiegoadkbaaGreat
namespace Go.Proofs.YtkcbgiegoadkbaaGreat
open Go.RowKit
set_option linter.unusedVariables false
set_option linter.unusedSimpArgs false
def intsV (zs : List Int) : List Value := zs.map (Value.int .i64)
theorem intsV_get {zs : List Int} {k : Nat} {z : Int} (h : zs[k]? = some z) : (intsV zs)[k]? = some (.int .i64 z) := by simp [intsV, h]
theorem ints_at {w : World} {B n : Nat} {A : Option Addr} {zs : List Int} (h : Reads w B 1 A n (intsV zs)) {k : Nat} {z : Int} (hz : zs[k]? = some z) :
 ∃ b o, A = some ⟨b, o, none⟩ ∧ b < B ∧ w.cell? ⟨b, o + k, none⟩ = some (.int .i64 z) := by
 have hk : k < zs.length := (List.getElem?_eq_some_iff.1 hz).1
 have hn : zs.length = n * 1 := by simpa [intsV] using h.1
 obtain ⟨b, o, hA, hb, hc⟩ := h.2 (by omega)
 exact ⟨b, o, hA, hb, hc _ _ (intsV_get hz)⟩
theorem ints_len {w : World} {B n : Nat} {A : Option Addr} {zs : List Int} (h : Reads w B 1 A n (intsV zs)) : zs.length = n := by
 have := h.1; simp [intsV] at this; omega
def eqI (r s : Int) : Bool := decide (r = s)
end Go.Proofs.YtkcbgiegoadkbaaGreat
namespace Go.Proofs.YtkcbgiegoadkbaaGreat
open Go.RowKit
set_option linter.unusedVariables false
set_option linter.unusedSimpArgs false
structure R3 where
 a : Int
 b : Int
 c : Int
theorem R3.eq_iff (r s : R3) : r = s ↔ (r.a = s.a ∧ r.b = s.b ∧ r.c = s.c) := by
 cases r; cases s; simp
instance : DecidableEq R3 := fun r s => decidable_of_iff _ (R3.eq_iff r s).symm
def eq3 (r s : R3) : Bool := decide (r = s)
def R3.cells (r : R3) : List Value := [.int .i64 r.a, .int .i64 r.b, .int .i64 r.c]
abbrev R3.val (r : R3) : Value := .agg #[.int .i64 r.a, .int .i64 r.b, .int .i64 r.c]
def rowsV3 (l : List R3) : List Value := l.flatMap R3.cells
theorem rowsV_len3 (l : List R3) : (rowsV3 l).length = l.length * 3 := flat_len R3.cells 3 (fun _ => rfl) l
theorem rowsV_get3 {l : List R3} {k : Nat} {r : R3} (h : l[k]? = some r) :
 (rowsV3 l)[k * 3 + 0]? = some (.int .i64 r.a) ∧ (rowsV3 l)[k * 3 + 1]? = some (.int .i64 r.b) ∧ (rowsV3 l)[k * 3 + 2]? = some (.int .i64 r.c) :=
 ⟨flat_get R3.cells 3 (fun _ => rfl) l k 0 r h (by omega), flat_get R3.cells 3 (fun _ => rfl) l k 1 r h (by omega), flat_get R3.cells 3 (fun _ => rfl) l k 2 r h (by omega)⟩
theorem rows_at3 {w : World} {B n : Nat} {A : Option Addr} {l : List R3} (h : Reads w B 3 A n (rowsV3 l)) {k : Nat} {r : R3} (hr : l[k]? = some r) :
 ∃ b o, A = some ⟨b, o, none⟩ ∧ b < B ∧ w.cell? ⟨b, o + k * 3, none⟩ = some (.int .i64 r.a) ∧ w.cell? ⟨b, o + k * 3 + 1, none⟩ = some (.int .i64 r.b) ∧ w.cell? ⟨b, o + k * 3 + 2, none⟩ = some (.int .i64 r.c) := by
 have hk : k < l.length := (List.getElem?_eq_some_iff.1 hr).1
 have hn : l.length * 3 = n * 3 := by rw [← rowsV_len3]; exact h.1
 obtain ⟨b, o, hA, hb, hc⟩ := h.2 (by omega)
 obtain ⟨h0, h1, h2⟩ := rowsV_get3 hr
 exact ⟨b, o, hA, hb, hc _ _ h0, hc _ _ h1, hc _ _ h2⟩
theorem rows_len3 {w : World} {B n : Nat} {A : Option Addr} {l : List R3} (h : Reads w B 3 A n (rowsV3 l)) : l.length = n := by
 have := h.1; rw [rowsV_len3] at this; omega
end Go.Proofs.YtkcbgiegoadkbaaGreat
namespace Go.Proofs.YtkcbgiegoadkbaaGreat
open Go.RowKit
set_option linter.unusedVariables false
set_option linter.unusedSimpArgs false
theorem vBig_any (A : Option Addr) (n c : Nat) (w : World) : Calls Tryz.prog 4 #[.slice A n c] w fun e w' => e = .returned (.bool (decide ((65536 : Int) < n))) ∧ Below w.heap.size w w' := by
 go_enter Tryz.func4, Tryz.ntmps4
 go_wp2
 go_ret
 exact ⟨rfl, (by repeat (first | exact ext_refl _ | assumption | refine ext_alloc ?_ _ | refine ext_drew ?_ | refine ext_drewN ?_ _ | refine ext_set ?_ (by simp <;> omega) _ | refine ext_trans ?_ (by assumption)))⟩
end Go.Proofs.YtkcbgiegoadkbaaGreat
namespace Go.Proofs.YtkcbgiegoadkbaaGreat
open Go.RowKit
set_option linter.unusedVariables false
set_option linter.unusedSimpArgs false
set_option maxHeartbeats 1000000 in
theorem vStudents_same (A B : Option Addr) (n c d : Nat) (l : List R5) (w : World) (hn : n ≤ 1048576) (h : Reads w w.heap.size 5 A n (rowsV l)) (h' : Reads w w.heap.size 5 B n (rowsV l)) :
 Calls Tryz.prog 54 #[.slice A n c, .slice B n d] w fun e w' => e = .returned (.bool true) ∧ Below w.heap.size w w' := by
 have hl := rows_len h
 have H := Lib.hid h
 have H' := Lib.hid h'
 have HL := Lib.hid hl
 clear h h' hl
 go_enter Tryz.func54, Tryz.ntmps54
 go_wp2
 go_loopw [5] (fun i wr => ∃ k : Nat, k ≤ n ∧ i = .int .i64 k ∧ Hid (Below w.heap.size w wr)) (fun i _ => n - (intOf i).toNat)
 case atStart => exact ⟨0, Nat.zero_le _, rfl, Lib.hid (ext_refl _)⟩
 case round =>
  obtain ⟨k, hk, rfl, hbl⟩ := hrel
  by_cases hlt : k < n
  · obtain ⟨r, hr⟩ := list_split (l := l) (k := k) (by rw [HL.out]; exact hlt)
    obtain ⟨b, o, rfl, hb, c0, c1, c2, c3, c4⟩ := rows_at (H.out.ext hbl.out (Nat.le_refl _)) hr
    obtain ⟨b', o', rfl, hb', d0, d1, d2, d3, d4⟩ := rows_at (H'.out.ext hbl.out (Nat.le_refl _)) hr
    have s0 := hbl.out.size
    have hk1 : (k : Int) < (n : Int) := by omega
    have hk0 : (0 : Int) ≤ (k : Int) := by omega
    have hb2 : b < wr.heap.size := by omega
    have hb3 : b' < wr.heap.size := by omega
    clear hr
    go_wp2
    (refine wp_region_later (by kernel_rfl) (by kernel_rfl) ?_; (repeat (go_big_quiet_step (fail))); refine wpQuiet_nil ?_; intro w1 hw1; obtain ⟨⟨wl, hbL⟩, hw1'⟩ := hw1; simp only at hw1'; subst hw1'; obtain ⟨hcL, hfL⟩ := bcell hbL)
    have hbl2 := Lib.hid (ext_trans hbl.out hbL)
    clear hcL hfL hbL
    go_wp2
    go_roundw
    case rel => exact ⟨k + 1, by omega, by go_num, hbl2⟩
    case measure => simp [intOf]; omega
  · obtain rfl : k = n := by omega
    go_wp2
    go_ret
    exact ⟨rfl, hbl.out⟩
theorem vSchool_same (day pa le : Int) (A B : Option Addr) (n c d : Nat) (l : List R5) (w : World) (hn : n ≤ 1048576) (h : Reads w w.heap.size 5 A n (rowsV l)) (h' : Reads w w.heap.size 5 B n (rowsV l)) :
 Calls Tryz.prog 29 #[schV day A n c pa le, schV day B n d pa le] w fun e w' => e = .returned (.bool true) ∧ Below w.heap.size w w' := by
 have HE := Lib.hid (fun (w : World) h h' => vStudents_same A B n c d l w hn h h')
 have H := Lib.hid h
 have H' := Lib.hid h'
 clear h h'
 go_enter Tryz.func29, Tryz.ntmps29
 go_wp2_with fail
 refine (HE.out _ ((H.out.ext (ext_alloc (ext_alloc (ext_refl _) _) _) (Nat.le_refl _)).more (by simp; omega)) ((H'.out.ext (ext_alloc (ext_alloc (ext_refl _) _) _) (Nat.le_refl _)).more (by simp; omega))).mono ?_
 rintro e w1 ⟨rfl, hb1⟩
 obtain ⟨hc1, hf1⟩ := bcell hb1
 have z1 : w.heap.size + 1 < w1.heap.size := by (have := hb1.size; simp at this; omega)
 have z2 : w.heap.size < w1.heap.size := by omega
 have b1 := Lib.hid (ext_trans (ext_alloc (ext_alloc (ext_refl w) _) _) hb1)
 clear hb1
 go_wp2
 go_ret
 exact ⟨rfl, b1.out⟩
end Go.Proofs.YtkcbgiegoadkbaaGreat
