
/- The drawing of arguments: next, pick, one. -/
import Derived.Test.YtkgeiemelhkkcaaBase
import Derived.Laws.Bits64b
namespace Go.Proofs.Ytkgeiemelhkkcaa
open Go.RowKit
set_option linter.unusedVariables false
set_option linter.unusedSimpArgs false
/-- the bytes that a cursor on block g goes over, elsewhere -/
def Src (w : World) (g : Nat) (A : Option Addr) (n : Nat) : Prop :=
  0 < n → ∃ b o, A = some ⟨b, o, none⟩ ∧ b < g ∧ ∀ i, i < n → ∃ z : Int, w.cell? ⟨b, o + i, none⟩ = some (.int .u8 z) ∧ 0 ≤ z ∧ z ≤ 255
/-- only block g is written, all else only grows -/
abbrev Gr (g : Nat) (w w' : World) : Prop := w.grownBy w' (some g)
theorem Gr.of_ext {g : Nat} {w w' : World} (hb : Below w.heap.size w w') : Gr g w w' := ⟨hb.os, hb.tape, hb.output, hb.size, fun k hk _ => hb.block k hk⟩
theorem Gr.trans {g : Nat} {w w1 w2 : World} (h : Gr g w w1) (k : Gr g w1 w2) : Gr g w w2 :=
  ⟨k.os.trans h.os, k.tape.trans h.tape, k.output.trans h.output, Nat.le_trans h.size k.size, fun i hi hne => (k.block i (Nat.lt_of_lt_of_le hi h.size) hne).trans (h.block i hi hne)⟩
theorem Gr.below {g : Nat} {W w w' : World} (hb : Below W.heap.size W w) (h : Gr g w w') (hg : W.heap.size ≤ g) : Below W.heap.size W w' :=
  hb.grown h hb.size (fun k hk => by injection hk with hk; omega)
theorem Gr.set {g : Nat} {w w' : World} (h : Gr g w w') (i : Nat) (u : Value) : Gr g w (w'.setCell ⟨g, i, none⟩ u) := only_setCell h (.inl rfl) u
theorem Src.gr {w w' : World} {g n : Nat} {A : Option Addr} (h : Src w g A n) (hg : Gr g w w') : Src w' g A n := fun hn => by
  obtain ⟨b, o, e, hlt, hc⟩ := h hn
  refine ⟨b, o, e, hlt, fun i hi => ?_⟩
  obtain ⟨z, hz, h01⟩ := hc i hi
  exact ⟨z, hg.cell hz (by intro e; injection e with e; exact absurd (show b = g from e) (by omega)), h01⟩
/-- block g is a cursor over bytes that lie elsewhere, at place a -/
def CurAt (w : World) (g a : Nat) : Prop :=
  ∃ (A : Option Addr) (n c : Nat) (s : Int), Blk w g 73 #[.slice A n c, .int .i64 a, .int .u64 s] ∧ n ≤ 1000000000 ∧ Src w g A n
theorem CurAt.lt {w : World} {g a : Nat} (h : CurAt w g a) : g < w.heap.size := by
  obtain ⟨A, n, c, s, h1, _⟩ := h
  exact h1.lt
theorem CurAt.ext {w w' : World} {g a : Nat} (h : CurAt w g a) (hb : Below w.heap.size w w') : CurAt w' g a := by
  obtain ⟨A, n, c, s, h1, h2, h3⟩ := h
  exact ⟨A, n, c, s, h1.ext hb, h2, h3.gr (Gr.of_ext hb)⟩
/-- a store into a later block -/
theorem CurAt.far {w : World} {g a : Nat} (h : CurAt w g a) {p : Addr} (hp : g < p.block) (u : Value) : CurAt (w.setCell p u) g a := by
  obtain ⟨A, n, c, s, h1, h2, h3⟩ := h
  refine ⟨A, n, c, s, (Below.heap_setCell w p u g (by omega)).trans h1, h2, fun hn => ?_⟩
  obtain ⟨b, o, e, hlt, hc⟩ := h3 hn
  refine ⟨b, o, e, hlt, fun i hi => ?_⟩
  obtain ⟨z, hz, h01⟩ := hc i hi
  exact ⟨z, (World.cell?_setCell_far w p ⟨b, o + i, none⟩ u (show p.block ≠ b by omega)).trans hz, h01⟩
theorem Gr.setNew {g : Nat} {w w' : World} (h : Gr g w w') {p : Addr} (hp : w.heap.size ≤ p.block) (u : Value) : Gr g w (w'.setCell p u) := only_setCell h (.inr hp) u
/-- a number from 0 to m is drawn; the cursor goes on by K places at most -/
def DrawInt (g a K : Nat) (m : Int) (w : World) (e : Ending) (w' : World) : Prop := ∃ (z : Int) (a' : Nat), e = .returned (.int .i64 z) ∧ 0 ≤ z ∧ z ≤ m ∧ a' ≤ a + K ∧ CurAt w' g a' ∧ Gr g w w'
theorem seed_byte (S : Int) : 0 ≤ wrap64 (bits .and .u64 (IntKind.u64.wrap S / 1099511627776) 255) ∧ wrap64 (bits .and .u64 (IntKind.u64.wrap S / 1099511627776) 255) ≤ 255 := by
  have hw : IntKind.u64.wrap S = S % 18446744073709551616 := by simp [IntKind.wrap, IntKind.bits, IntKind.signed]
  obtain ⟨m, hm⟩ := Int.eq_ofNat_of_zero_le (a := IntKind.u64.wrap S / 1099511627776) (by omega)
  rw [hm, show (255 : Int) = ((255 : Nat) : Int) from rfl, bits_and_u64_nat m 255 (by omega) (by omega)]
  have h1 : m &&& 255 ≤ 255 := Nat.and_le_right
  rw [IntWalk.wrap64_in _ ⟨by omega, by omega⟩]
  omega
set_option maxHeartbeats 1000000 in
theorem next_any (g a : Nat) (w : World) (h : CurAt w g a) (ha : a ≤ 1000000000000) :
    Calls Try.prog 79 #[.pointer (some ⟨g, 0, none⟩)] w (DrawInt g a 1 255 w) := by
  obtain ⟨A, n, c, s, h1, h2, h3⟩ := h
  have hlt := h1.lt
  have c0 := h1.cell 0
  have c1 := h1.cell 1
  have c2 := h1.cell 2
  obtain ⟨f0, f1, f2⟩ := h1.z3
  simp at c0 c1 c2
  by_cases hin : a < n
  · obtain ⟨b, o, rfl, hbg, hc⟩ := h3 (by omega)
    have hne : b ≠ g := by omega
    have hbl : b < w.heap.size := by omega
    obtain ⟨z, hz, hz0, hz1⟩ := hc a hin
    have H1 := Lib.hid h1
    have H3 := Lib.hid h3
    clear hc h1 h3
    go_enter Try.func79, Try.ntmps79
    go_wp2
    (refine wp_region_later (by kernel_rfl) (by kernel_rfl) ?_; (repeat (go_big_quiet_step (fail))); refine wpQuiet_nil ?_; intro w1 hw1; obtain ⟨⟨wl, hbL⟩, hw1'⟩ := hw1; simp only at hw1'; subst hw1'; obtain ⟨hcL, hfL⟩ := bcell hbL)
    have zg1 : g < w1.heap.size := Nat.lt_of_lt_of_le hlt hbL.size
    have zb1 : b < w1.heap.size := Nat.lt_of_lt_of_le hbl hbL.size
    have HB1 := Lib.hid hbL
    clear hbL
    go_wp2
    (refine wp_region_later (by kernel_rfl) (by kernel_rfl) ?_; (repeat (go_big_quiet_step (fail))); refine wpQuiet_nil ?_; intro w1 hw1; obtain ⟨⟨wl, hbL⟩, hw1'⟩ := hw1; simp only at hw1'; subst hw1'; obtain ⟨hcL, hfL⟩ := bcell hbL)
    have zg2 := Nat.lt_of_lt_of_le zg1 hbL.size
    have HB2 := Lib.hid hbL
    clear hbL
    go_wp2
    (refine wp_region_later (by kernel_rfl) (by kernel_rfl) ?_; (repeat (go_big_quiet_step (fail))); refine wpQuiet_nil ?_; intro w1 hw1; obtain ⟨⟨wl, hbL⟩, hw1'⟩ := hw1; simp only at hw1'; subst hw1'; obtain ⟨hcL, hfL⟩ := bcell hbL)
    have HB3 := Lib.hid hbL
    clear hbL
    go_wp2
    go_ret
    refine ⟨z, a + 1, rfl, hz0, hz1, Nat.le_refl _, ?_⟩
    have g1 := ((((Gr.of_ext (g := g) HB1.out).trans (Gr.of_ext HB2.out)).set 1 _).set 2 _).trans (Gr.of_ext HB3.out)
    exact ⟨⟨_, _, _, _, ((((H1.out.ext HB1.out).ext HB2.out).set_ 1 _).set_ 2 _).ext HB3.out, h2, H3.out.gr g1⟩, g1⟩
  · have H1 := Lib.hid h1
    have H3 := Lib.hid h3
    clear h1 h3
    go_enter Try.func79, Try.ntmps79
    go_wp2
    (refine wp_region_later (by kernel_rfl) (by kernel_rfl) ?_; (repeat (go_big_quiet_step (fail))); refine wpQuiet_nil ?_; intro w1 hw1; obtain ⟨⟨wl, hbL⟩, hw1'⟩ := hw1; simp only at hw1'; subst hw1'; obtain ⟨hcL, hfL⟩ := bcell hbL)
    have zg1 : g < w1.heap.size := Nat.lt_of_lt_of_le hlt hbL.size
    have HB1 := Lib.hid hbL
    clear hbL
    go_wp2
    (refine wp_region_later (by kernel_rfl) (by kernel_rfl) ?_; (repeat (go_big_quiet_step (fail))); refine wpQuiet_nil ?_; intro w1 hw1; obtain ⟨⟨wl, hbL⟩, hw1'⟩ := hw1; simp only at hw1'; subst hw1'; obtain ⟨hcL, hfL⟩ := bcell hbL)
    have HB3 := Lib.hid hbL
    clear hbL
    go_wp2
    go_ret
    obtain ⟨q0, q1⟩ := seed_byte (IntKind.u64.wrap (IntKind.u64.wrap (s * 6364136223846793005)) + 100606)
    refine ⟨_, a + 1, rfl, q0, q1, Nat.le_refl _, ?_⟩
    have g1 := (((Gr.of_ext (g := g) HB1.out).set 1 _).set 2 _).trans (Gr.of_ext HB3.out)
    exact ⟨⟨_, _, _, _, (((H1.out.ext HB1.out).set_ 1 _).set_ 2 _).ext HB3.out, h2, H3.out.gr g1⟩, g1⟩
theorem drawInt_chain {g a K a' K' : Nat} {m : Int} {w w1 : World} (h : Gr g w w1) (ha : a' ≤ a + K) {e : Ending} {w' : World} (hd : DrawInt g a' K' m w1 e w') : DrawInt g a (K + K') m w e w' := by
  obtain ⟨z, a2, he, h0, h1, h2, h3, h4⟩ := hd
  exact ⟨z, a2, he, h0, h1, by omega, h3, h.trans h4⟩
set_option maxHeartbeats 1000000 in
theorem pick_any (g a n : Nat) (w : World) (h : CurAt w g a) (ha : a ≤ 900000000000) (hn : n ≤ 65536) (hn1 : 1 ≤ n) :
    Calls Try.prog 72 #[.pointer (some ⟨g, 0, none⟩), .int .i64 n] w (DrawInt g a 2 ((n : Int) - 1) w) := by
  by_cases h1 : n ≤ 1
  · go_enter Try.func72, Try.ntmps72
    go_wp2
    go_ret
    exact ⟨0, a, rfl, by omega, by omega, by omega, h, Gr.of_ext (ext_refl _)⟩
  · by_cases h2 : (200 : Int) < n
    · go_enter Try.func72, Try.ntmps72
      go_wp2_with fail
      refine (next_any g a _ h (by omega)).mono ?_
      rintro e w1 ⟨z1, a1, rfl, z10, z11, ha1, hc1, hg1⟩
      go_wp2_with fail
      refine (next_any g a1 _ hc1 (by omega)).mono ?_
      rintro e w2 ⟨z2, a2, rfl, z20, z21, ha2, hc2, hg2⟩
      go_wp2
      go_ret
      refine ⟨(z1 * 256 + z2) % n, a2, by go_num, Int.emod_nonneg _ (by omega), ?_, by omega, hc2, hg1.trans hg2⟩
      have := Int.emod_lt_of_pos (z1 * 256 + z2) (b := (n : Int)) (by omega)
      omega
    · go_enter Try.func72, Try.ntmps72
      go_wp2_with fail
      refine (next_any g a _ h (by omega)).mono ?_
      rintro e w1 ⟨z1, a1, rfl, z10, z11, ha1, hc1, hg1⟩
      go_wp2
      go_ret
      refine ⟨z1 % n, a1, by go_num, Int.emod_nonneg _ (by omega), ?_, by omega, hc1, hg1⟩
      have := Int.emod_lt_of_pos z1 (b := (n : Int)) (by omega)
      omega
/-- a yes or no is drawn -/
def DrawBool (g a K : Nat) (w : World) (e : Ending) (w' : World) : Prop := ∃ (b : Bool) (a' : Nat), e = .returned (.bool b) ∧ a' ≤ a + K ∧ CurAt w' g a' ∧ Gr g w w'
theorem one_any (g a n : Nat) (w : World) (h : CurAt w g a) (ha : a ≤ 900000000000) (hn : n ≤ 65536) (hn1 : 1 ≤ n) :
    Calls Try.prog 78 #[.pointer (some ⟨g, 0, none⟩), .int .i64 n] w (DrawBool g a 2 w) := by
  go_enter Try.func78, Try.ntmps78
  go_wp2_with fail
  refine (pick_any g a n _ h ha hn (by omega)).mono ?_
  rintro e w1 ⟨z1, a1, rfl, z10, z11, ha1, hc1, hg1⟩
  go_wp2
  go_ret
  exact ⟨_, a1, rfl, ha1, hc1, hg1⟩
/-- a slice of n cells each of which is a P -/
def AllAt (w : World) (g : Nat) (A : Option Addr) (n : Nat) (P : Value → Prop) : Prop := ∃ b o, A = some ⟨b, o, none⟩ ∧ b ≠ g ∧ ∀ i, i < n → ∃ u, w.cell? ⟨b, o + i, none⟩ = some u ∧ P u
theorem AllAt.gr {w w' : World} {g n : Nat} {A : Option Addr} {P : Value → Prop} (h : AllAt w g A n P) (hg : Gr g w w') : AllAt w' g A n P := by
  obtain ⟨b, o, e, hne, hc⟩ := h
  refine ⟨b, o, e, hne, fun i hi => ?_⟩
  obtain ⟨z, hz, h01⟩ := hc i hi
  exact ⟨z, hg.cell hz (by intro e; injection e with e; exact hne e), h01⟩
theorem allAt_lit (w : World) (g : Nat) (cs : List Value) (e : TypeId) {H : Nat} (hH : H = w.heap.size) (hg : g < w.heap.size) (P : Value → Prop) (hP : ∀ u ∈ cs, P u) : AllAt (w.alloc (.cells cs.toArray e)) g (some ⟨H, 0, none⟩) cs.length P := by
  subst hH
  refine ⟨_, _, rfl, by omega, fun i hi => ⟨cs[i], ?_, hP _ (List.getElem_mem hi)⟩⟩
  rw [World.cell?_alloc_at _ _ _ _ rfl]
  simp [hi]
def StrLe (M : Nat) (u : Value) : Prop := ∃ s : ByteArray, u = .string s ∧ s.size ≤ M
def IntIn (lo hi : Int) (u : Value) : Prop := ∃ z : Int, u = .int .i64 z ∧ lo ≤ z ∧ z ≤ hi
/-- a text no longer than M is drawn -/
def DrawStr (g a K M : Nat) (w : World) (e : Ending) (w' : World) : Prop := ∃ (s : ByteArray) (a' : Nat), e = .returned (.string s) ∧ s.size ≤ M ∧ a' ≤ a + K ∧ CurAt w' g a' ∧ Gr g w w'
/-- a number from lo to hi is drawn -/
def DrawIn (g a K : Nat) (lo hi : Int) (w : World) (e : Ending) (w' : World) : Prop := ∃ (z : Int) (a' : Nat), e = .returned (.int .i64 z) ∧ lo ≤ z ∧ z ≤ hi ∧ a' ≤ a + K ∧ CurAt w' g a' ∧ Gr g w w'
theorem among_any (g a : Nat) (A : Option Addr) (n c : Nat) (lo hi : Int) (w : World) (h : CurAt w g a) (ha : a ≤ 900000000000) (hn : n ≤ 65536) (hpos : 0 < n) (hl : AllAt w g A n (IntIn lo hi)) :
    Calls Try.prog 71 #[.pointer (some ⟨g, 0, none⟩), .slice A n c] w (DrawIn g a 2 lo hi w) := by
  go_enter Try.func71, Try.ntmps71
  go_wp2_with fail
  refine (pick_any g a n _ h ha hn (by omega)).mono ?_
  rintro e w1 ⟨z1, a1, rfl, z10, z11, ha1, hc1, hg1⟩
  obtain ⟨k, rfl⟩ := Int.eq_ofNat_of_zero_le z10
  obtain ⟨b, o, rfl, hne, hc⟩ := hl.gr hg1
  obtain ⟨u, hu, x, rfl, hx0, hx1⟩ := hc k (by omega)
  clear hc hl
  have hk : (k : Int) < n := by omega
  go_wp2
  go_ret
  exact ⟨x, a1, rfl, hx0, hx1, ha1, hc1, hg1⟩
end Go.Proofs.Ytkgeiemelhkkcaa
