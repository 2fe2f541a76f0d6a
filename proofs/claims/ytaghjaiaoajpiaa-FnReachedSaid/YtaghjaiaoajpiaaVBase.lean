/- Small lemmas over worlds that every text of this seat uses: a world that only has more in it ('Below' at its own size), chained and read. -/
import Derived.Test.YtaghjaiaoajpiaaProg
import Derived.WalkKit
import Derived.WalkLawsBesides
import Derived.Lib.Hide
import Derived.Deep.QuietTactic
import Derived.BigQuiet
import Derived.Deep.Draws
import Derived.Deep.RegionHeld3
import Derived.Deep.RegionWith
import Derived.Deep.DeepCutAuto
import Derived.Outline
import Derived.Laws.OwnMore
import Derived.Deep.AppendLies
namespace Go.Proofs.Ytaghjaiaoajpiaa
open Go.RowKit
set_option linter.unusedVariables false
set_option linter.unusedSimpArgs false
theorem ext_refl (w : World) : Below w.heap.size w w := Below.refl _ _
theorem ext_trans {w w1 w2 : World} (h : Below w.heap.size w w1) (k : Below w1.heap.size w1 w2) : Below w.heap.size w w2 := h.trans (k.mono h.size)
theorem ext_alloc {w w1 : World} (h : Below w.heap.size w w1) (o : Obj) : Below w.heap.size w (w1.alloc o) := h.alloc h.size o
theorem ext_drew {w w1 : World} (h : Below w.heap.size w w1) : Below w.heap.size w w1.drew := h.drew
theorem ext_drewN {w w1 : World} (h : Below w.heap.size w w1) (n : Nat) : Below w.heap.size w (w1.drewN n) := ⟨h.os, h.tape, h.output, h.size, h.block⟩
theorem ext_drew_left {w w1 : World} (h : Below w.drew.heap.size w.drew w1) : Below w.heap.size w w1 := ⟨h.os, h.tape, h.output, h.size, h.block⟩
theorem ext_set {w w1 : World} (h : Below w.heap.size w w1) {p : Addr} (hp : w.heap.size ≤ p.block) (u : Value) : Below w.heap.size w (w1.setCell p u) := h.setCell hp u
theorem bcell {W w1 : World} (hb : Below W.heap.size W w1) : (∀ b o, b < W.heap.size → w1.cell? ⟨b, o, none⟩ = W.cell? ⟨b, o, none⟩) ∧ (∀ b o, b < W.heap.size → w1.frozen? ⟨b, o, none⟩ = W.frozen? ⟨b, o, none⟩) :=
 ⟨fun b o h => hb.cell (p := ⟨b, o, none⟩) h, fun b o h => hb.frozen (p := ⟨b, o, none⟩) h⟩
/-- a cell that is there stays what it is -/
theorem ext_cell {w w' : World} (hb : Below w.heap.size w w') {p : Addr} {v : Value} (h : w.cell? p = some v) : w'.cell? p = some v := (hb.cell (World.block_lt_of_cell? w _ h)).trans h
/-- a world that only has more than w: the class in which a region of reads and of calls that only add memory is walked in the order of the text -/
structure Later (w : World) where
 world : World
 h : Below w.heap.size w world
instance {w : World} : Nonempty (Later w) := ⟨⟨w, Below.refl _ _⟩⟩
def Later.far {w : World} (m : Later w) (b o : Nat) : Option Value := m.world.cell? ⟨b, o, none⟩
@[go_sem] theorem Later.cell {w : World} (m : Later w) (b o : Nat) : m.world.cell? ⟨b, o, none⟩ = if b < w.heap.size then w.cell? ⟨b, o, none⟩ else m.far b o := by
  split
  · exact m.h.cell (p := ⟨b, o, none⟩) (by assumption)
  · rfl
theorem wp_region_later {P : Program} {id : Nat} {Q : Exit → Act → World → Prop} {a : Act} {w : World} {l : List Oper} (hm : P.follows .mixedOrders = true) (hB : Region.lexB .any l.toArray = true)
 (h : wpQuiet P l.toArray (fun w' => ∃ m : Later w, w' = m.world) (fun a' => ∀ w', (∃ m : Later w, w' = m.world) → Q .normal a' w') l a) : (Code.region id l.toArray true).wp P Q a w :=
 wp_region_quiet (C := fun w' => ∃ m : Later w, w' = m.world) hm hB ⟨⟨w.drew, ext_drew (ext_refl w)⟩, rfl⟩ (by simpa using h)
theorem Calls.later_of {P : Program} {f : FuncId} {args : Array Value} {w : World} {m : Later w} {v : Value}
 (h : Calls P f args m.world fun e w' => e = .returned v ∧ Below m.world.heap.size m.world w') : Calls P f args m.world fun e w'' => e = .returned v ∧ ∃ m' : Later w, w'' = m'.world :=
 h.mono fun _ w' ⟨he, hb⟩ => ⟨he, ⟨w', ext_trans m.h hb⟩, rfl⟩
theorem Calls.later_same {P : Program} {f : FuncId} {args : Array Value} {w : World} {m : Later w} {v : Value}
 (h : Calls P f args m.world fun e w' => e = .returned v ∧ m.world = w') : Calls P f args m.world fun e w'' => e = .returned v ∧ ∃ m' : Later w, w'' = m'.world :=
 h.mono fun _ _ ⟨he, hb⟩ => ⟨he, m, hb.symm⟩
theorem ret_bool {a b : Bool} (h : a = b) : Ending.returned (.bool a) = .returned (.bool b) := by rw [h]
theorem ret_str {a b : ByteArray} (h : a = b) : Ending.returned (.string a) = .returned (.string b) := by rw [h]
theorem ret_int {k : IntKind} {a b : Int} (h : a = b) : Ending.returned (.int k a) = .returned (.int k b) := by rw [h]
theorem flat_len {α : Type} (c : α → List Value) (K : Nat) (hK : ∀ x, (c x).length = K) : ∀ l : List α, (l.flatMap c).length = l.length * K := by
 intro l
 induction l with
 | nil => simp
 | cons x l ih => simp only [List.flatMap_cons, List.length_append, ih, hK, List.length_cons]; rw [Nat.add_mul]; omega
theorem flat_get {α : Type} (c : α → List Value) (K : Nat) (hK : ∀ x, (c x).length = K) : ∀ (l : List α) (i j : Nat) (x : α), l[i]? = some x → j < K → (l.flatMap c)[i * K + j]? = (c x)[j]? := by
 intro l
 induction l with
 | nil => intro i j x h; simp at h
 | cons y l ih =>
   intro i j x h hj
   rcases i with _ | i
   · simp at h; subst h
     rw [List.flatMap_cons, Nat.zero_mul, Nat.zero_add, List.getElem?_append_left (by rw [hK]; exact hj)]
   · simp only [List.getElem?_cons_succ] at h
     rw [List.flatMap_cons, List.getElem?_append_right (by rw [hK, Nat.succ_mul]; omega), hK, show (i + 1) * K + j - K = i * K + j from by rw [Nat.succ_mul]; omega]
     exact ih i j x h hj
theorem add_flat (b o j : Nat) : (⟨b, o, none⟩ : Addr).add j = ⟨b, o + j, none⟩ := by
 unfold Addr.add; split
 · subst_vars; rfl
 · rfl
/-- the slice value '.slice A n c' holds the cells xs, below block B -/
def Reads (w : World) (B size : Nat) (A : Option Addr) (n : Nat) (xs : List Value) : Prop :=
 xs.length = n * size ∧ (0 < n → ∃ b o, A = some ⟨b, o, none⟩ ∧ b < B ∧ ∀ j u, xs[j]? = some u → w.cell? ⟨b, o + j, none⟩ = some u)
section
variable {w w' : World} {B B' size n : Nat} {A : Option Addr} {xs : List Value}
theorem Reads.none_ : Reads w B size A 0 [] := ⟨by simp, fun h => absurd h (by omega)⟩
theorem Reads.keep (h : Reads w B size A n xs) (hk : ∀ p : Addr, p.block < B → w'.cell? p = w.cell? p) : Reads w' B size A n xs :=
 ⟨h.1, fun hn => by
  obtain ⟨b, o, e, hb, hc⟩ := h.2 hn
  exact ⟨b, o, e, hb, fun j u hu => (hk _ hb).trans (hc j u hu)⟩⟩
theorem Reads.more (h : Reads w B size A n xs) (hB : B ≤ B') : Reads w B' size A n xs :=
 ⟨h.1, fun hn => by
  obtain ⟨b, o, e, hb, hc⟩ := h.2 hn
  exact ⟨b, o, e, by omega, hc⟩⟩
theorem Reads.below (h : Reads w B size A n xs) (hb : Below B w w') : Reads w' B size A n xs := h.keep fun _ hp => hb.cell hp
/-- in a world that only has more -/
theorem Reads.ext (h : Reads w B size A n xs) (hb : Below w.heap.size w w') (hB : B ≤ w.heap.size) : Reads w' B size A n xs := h.keep fun _ hp => hb.cell (Nat.lt_of_lt_of_le hp hB)
theorem Reads.of_own {base : Nat} {e : TypeId} {c : Nat} (h : w.ownsRow base e size (.slice A n c) n xs) : Reads w w.heap.size size A n xs := by
 refine ⟨h.1, fun hn => ?_⟩
 obtain ⟨g, cap, hv, _, hlt⟩ := h.form hn
 have hA : A = some ⟨g, 0, none⟩ := by injection hv
 subst hA
 exact ⟨_, _, rfl, hlt, fun j u hu => by rw [← add_flat]; exact h.cells (g := g) rfl j u hu⟩
end
theorem only_setCell {a w : World} {g : Nat} (h : a.grownBy w (some g)) {p : Addr} (hp : p.block = g ∨ a.heap.size ≤ p.block) (u : Value) : a.grownBy (w.setCell p u) (some g) :=
 ⟨h.os, h.tape, h.output, by simpa [World.setCell] using h.size, fun i hi hne => (Below.heap_setCell w p u i (by
  rintro rfl
  rcases hp with hp | hp
  · exact hne (by rw [hp])
  · omega)).trans (h.block i hi hne)⟩
/-- an old cell behind an append onto a row of the call's own -/
theorem cell_own_grown {wr wx w2 : World} {B E size n : Nat} {v u : Value} {xs : List Value} (hown : wr.ownsRow B E size v n xs) (hg : wx.grownBy w2 v.ownBlock) {p : Addr} (hp : p.block < B) (h : wx.cell? p = some u) : w2.cell? p = some u :=
 hg.cell h (by intro e; have := (hown.lt _ e.symm).1; omega)
theorem below_grown' {w wr wx w2 : World} {B E size n : Nat} {v : Value} {xs : List Value} (hown : wr.ownsRow B E size v n xs) (hB : w.heap.size ≤ B) (hbl : Below w.heap.size w wx) (hg : wx.grownBy w2 v.ownBlock) : Below w.heap.size w w2 :=
 hbl.grown hg hbl.size (fun k hk => Nat.le_trans hB (hown.lt k hk).1)
/-- two rows, the second made when the first was there: not one block -/
theorem own_ne {wa wb : World} {B1 B2 E1 s1 n1 E2 s2 n2 : Nat} {v1 v2 : Value} {xs ys : List Value} (h1 : wa.ownsRow B1 E1 s1 v1 n1 xs) (h2 : wb.ownsRow B2 E2 s2 v2 n2 ys) (h : wa.heap.size ≤ B2) : v2.ownBlock = none ∨ v2.ownBlock ≠ v1.ownBlock := by
 rcases e2 : v2.ownBlock with _ | g2
 · exact .inl rfl
 · refine .inr fun e => ?_
   have l2 := (h2.lt _ e2).1
   have l1 := (h1.lt _ e.symm).2
   omega
theorem own_ne' {wa wb : World} {B1 B2 E1 s1 n1 E2 s2 n2 : Nat} {v1 v2 : Value} {xs ys : List Value} (h1 : wa.ownsRow B1 E1 s1 v1 n1 xs) (h2 : wb.ownsRow B2 E2 s2 v2 n2 ys) (h : wa.heap.size ≤ B2) : v1.ownBlock = none ∨ v1.ownBlock ≠ v2.ownBlock := by
 rcases e1 : v1.ownBlock with _ | g1
 · exact .inl rfl
 · refine .inr fun e => ?_
   have l2 := (h2.lt _ e.symm).1
   have l1 := (h1.lt _ e1).2
   omega
theorem below_grown {w wr wx w2 : World} {E size n : Nat} {v : Value} {xs : List Value} (hown : wr.ownsRow w.heap.size E size v n xs) (hbl : Below w.heap.size w wx) (hg : wx.grownBy w2 v.ownBlock) : Below w.heap.size w w2 :=
 hbl.grown hg hbl.size (fun k hk => (hown.lt k hk).1)
/-- a slice of the call's own comes back: n elements of type E, of 'size' cells each, the cells xs -/
def RetSlice (w : World) (E size n : Nat) (xs : List Value) (e : Ending) (w' : World) : Prop :=
 ∃ A c, e = .returned (.slice A n c) ∧ w'.ownsRow w.heap.size E size (.slice A n c) n xs ∧ Below w.heap.size w w'
/-- the same beside a bool -/
def RetSliceB (w : World) (E size n : Nat) (xs : List Value) (ok : Bool) (e : Ending) (w' : World) : Prop :=
 ∃ A c, e = .returned (.tuple #[.slice A n c, .bool ok]) ∧ w'.ownsRow w.heap.size E size (.slice A n c) n xs ∧ Below w.heap.size w w'
theorem own_shape {w : World} {base E size n : Nat} {v : Value} {xs : List Value} (h : w.ownsRow base E size v n xs) : ∃ A c, v = .slice A n c := by
 rcases h.2 with ⟨rfl, rfl⟩ | ⟨g, cap, cur, rfl, _⟩
 · exact ⟨_, _, rfl⟩
 · exact ⟨_, _, rfl⟩
/-- block g is just the cells cs of element type t, none frozen -/
def Blk (w : World) (g : Nat) (t : TypeId) (cs : Array Value) : Prop := w.heap[g]? = some (.cells cs t (0, 0))
section
variable {w w' : World} {g : Nat} {t : TypeId} {cs : Array Value}
theorem Blk.lt (h : Blk w g t cs) : g < w.heap.size := by
 rcases Nat.lt_or_ge g w.heap.size with hlt | hge
 · exact hlt
 · unfold Blk at h; rw [Array.getElem?_eq_none hge] at h; cases h
theorem Blk.cell (h : Blk w g t cs) (i : Nat) : w.cell? ⟨g, i, none⟩ = cs[i]? := cell_of_row w g i cs t (0, 0) h
theorem Blk.frozen (h : Blk w g t cs) (i : Nat) : w.frozen? ⟨g, i, none⟩ = false := by
 unfold Blk at h
 simp [World.frozen?, h]
theorem Blk.c0 {a0 : Value} {l : List Value} (h : Blk w g t (List.toArray (a0 :: l))) : w.cell? ⟨g, 0, none⟩ = some a0 := by rw [h.cell]; simp
theorem Blk.c1 {a0 a1 : Value} {l : List Value} (h : Blk w g t (List.toArray (a0 :: a1 :: l))) : w.cell? ⟨g, 1, none⟩ = some a1 := by rw [h.cell]; simp
theorem Blk.c2 {a0 a1 a2 : Value} {l : List Value} (h : Blk w g t (List.toArray (a0 :: a1 :: a2 :: l))) : w.cell? ⟨g, 2, none⟩ = some a2 := by rw [h.cell]; simp
theorem Blk.c3 {a0 a1 a2 a3 : Value} {l : List Value} (h : Blk w g t (List.toArray (a0 :: a1 :: a2 :: a3 :: l))) : w.cell? ⟨g, 3, none⟩ = some a3 := by rw [h.cell]; simp
theorem Blk.c4 {a0 a1 a2 a3 a4 : Value} {l : List Value} (h : Blk w g t (List.toArray (a0 :: a1 :: a2 :: a3 :: a4 :: l))) : w.cell? ⟨g, 4, none⟩ = some a4 := by rw [h.cell]; simp
theorem Blk.c5 {a0 a1 a2 a3 a4 a5 : Value} {l : List Value} (h : Blk w g t (List.toArray (a0 :: a1 :: a2 :: a3 :: a4 :: a5 :: l))) : w.cell? ⟨g, 5, none⟩ = some a5 := by rw [h.cell]; simp
theorem Blk.c6 {a0 a1 a2 a3 a4 a5 a6 : Value} {l : List Value} (h : Blk w g t (List.toArray (a0 :: a1 :: a2 :: a3 :: a4 :: a5 :: a6 :: l))) : w.cell? ⟨g, 6, none⟩ = some a6 := by rw [h.cell]; simp
theorem Blk.q2 {a0 a1 : Value} {l : List Value} (h : Blk w g t (List.toArray (a0 :: a1 :: l))) : w.cell? ⟨g, 0, none⟩ = some a0 ∧ w.cell? ⟨g, 1, none⟩ = some a1 := ⟨h.c0, h.c1⟩
theorem Blk.z2 (h : Blk w g t cs) : w.frozen? ⟨g, 0, none⟩ = false ∧ w.frozen? ⟨g, 1, none⟩ = false := ⟨h.frozen 0, h.frozen 1⟩
theorem Blk.q3 {a0 a1 a2 : Value} {l : List Value} (h : Blk w g t (List.toArray (a0 :: a1 :: a2 :: l))) : w.cell? ⟨g, 0, none⟩ = some a0 ∧ w.cell? ⟨g, 1, none⟩ = some a1 ∧ w.cell? ⟨g, 2, none⟩ = some a2 := ⟨h.c0, h.c1, h.c2⟩
theorem Blk.z3 (h : Blk w g t cs) : w.frozen? ⟨g, 0, none⟩ = false ∧ w.frozen? ⟨g, 1, none⟩ = false ∧ w.frozen? ⟨g, 2, none⟩ = false := ⟨h.frozen 0, h.frozen 1, h.frozen 2⟩
theorem Blk.q4 {a0 a1 a2 a3 : Value} {l : List Value} (h : Blk w g t (List.toArray (a0 :: a1 :: a2 :: a3 :: l))) : w.cell? ⟨g, 0, none⟩ = some a0 ∧ w.cell? ⟨g, 1, none⟩ = some a1 ∧ w.cell? ⟨g, 2, none⟩ = some a2 ∧ w.cell? ⟨g, 3, none⟩ = some a3 := ⟨h.c0, h.c1, h.c2, h.c3⟩
theorem Blk.z4 (h : Blk w g t cs) : w.frozen? ⟨g, 0, none⟩ = false ∧ w.frozen? ⟨g, 1, none⟩ = false ∧ w.frozen? ⟨g, 2, none⟩ = false ∧ w.frozen? ⟨g, 3, none⟩ = false := ⟨h.frozen 0, h.frozen 1, h.frozen 2, h.frozen 3⟩
theorem Blk.q5 {a0 a1 a2 a3 a4 : Value} {l : List Value} (h : Blk w g t (List.toArray (a0 :: a1 :: a2 :: a3 :: a4 :: l))) : w.cell? ⟨g, 0, none⟩ = some a0 ∧ w.cell? ⟨g, 1, none⟩ = some a1 ∧ w.cell? ⟨g, 2, none⟩ = some a2 ∧ w.cell? ⟨g, 3, none⟩ = some a3 ∧ w.cell? ⟨g, 4, none⟩ = some a4 := ⟨h.c0, h.c1, h.c2, h.c3, h.c4⟩
theorem Blk.z5 (h : Blk w g t cs) : w.frozen? ⟨g, 0, none⟩ = false ∧ w.frozen? ⟨g, 1, none⟩ = false ∧ w.frozen? ⟨g, 2, none⟩ = false ∧ w.frozen? ⟨g, 3, none⟩ = false ∧ w.frozen? ⟨g, 4, none⟩ = false := ⟨h.frozen 0, h.frozen 1, h.frozen 2, h.frozen 3, h.frozen 4⟩
theorem Blk.q6 {a0 a1 a2 a3 a4 a5 : Value} {l : List Value} (h : Blk w g t (List.toArray (a0 :: a1 :: a2 :: a3 :: a4 :: a5 :: l))) : w.cell? ⟨g, 0, none⟩ = some a0 ∧ w.cell? ⟨g, 1, none⟩ = some a1 ∧ w.cell? ⟨g, 2, none⟩ = some a2 ∧ w.cell? ⟨g, 3, none⟩ = some a3 ∧ w.cell? ⟨g, 4, none⟩ = some a4 ∧ w.cell? ⟨g, 5, none⟩ = some a5 := ⟨h.c0, h.c1, h.c2, h.c3, h.c4, h.c5⟩
theorem Blk.z6 (h : Blk w g t cs) : w.frozen? ⟨g, 0, none⟩ = false ∧ w.frozen? ⟨g, 1, none⟩ = false ∧ w.frozen? ⟨g, 2, none⟩ = false ∧ w.frozen? ⟨g, 3, none⟩ = false ∧ w.frozen? ⟨g, 4, none⟩ = false ∧ w.frozen? ⟨g, 5, none⟩ = false := ⟨h.frozen 0, h.frozen 1, h.frozen 2, h.frozen 3, h.frozen 4, h.frozen 5⟩
theorem Blk.q7 {a0 a1 a2 a3 a4 a5 a6 : Value} {l : List Value} (h : Blk w g t (List.toArray (a0 :: a1 :: a2 :: a3 :: a4 :: a5 :: a6 :: l))) : w.cell? ⟨g, 0, none⟩ = some a0 ∧ w.cell? ⟨g, 1, none⟩ = some a1 ∧ w.cell? ⟨g, 2, none⟩ = some a2 ∧ w.cell? ⟨g, 3, none⟩ = some a3 ∧ w.cell? ⟨g, 4, none⟩ = some a4 ∧ w.cell? ⟨g, 5, none⟩ = some a5 ∧ w.cell? ⟨g, 6, none⟩ = some a6 := ⟨h.c0, h.c1, h.c2, h.c3, h.c4, h.c5, h.c6⟩
theorem Blk.z7 (h : Blk w g t cs) : w.frozen? ⟨g, 0, none⟩ = false ∧ w.frozen? ⟨g, 1, none⟩ = false ∧ w.frozen? ⟨g, 2, none⟩ = false ∧ w.frozen? ⟨g, 3, none⟩ = false ∧ w.frozen? ⟨g, 4, none⟩ = false ∧ w.frozen? ⟨g, 5, none⟩ = false ∧ w.frozen? ⟨g, 6, none⟩ = false := ⟨h.frozen 0, h.frozen 1, h.frozen 2, h.frozen 3, h.frozen 4, h.frozen 5, h.frozen 6⟩
theorem Blk.ext (h : Blk w g t cs) (hb : Below w.heap.size w w') : Blk w' g t cs := (hb.block g h.lt).trans h
theorem Blk.set_ (h : Blk w g t cs) (i : Nat) (u : Value) : Blk (w.setCell ⟨g, i, none⟩ u) g t (cs.setIfInBounds i u) := by
 unfold Blk at h ⊢
 simp [World.setCell, Array.getElem?_modify, h]
end
/-- a row of 'tot' cells in block g of which the first m are those of xs -/
def Fill (w : World) (g : Nat) (e : TypeId) (tot m : Nat) (xs : List Value) : Prop := ∃ cs, Blk w g e cs ∧ cs.size = tot ∧ ∀ j, j < m → cs[j]? = xs[j]?
section
variable {w w' : World} {g : Nat} {e : TypeId} {tot m : Nat} {xs : List Value}
theorem Fill.ext (h : Fill w g e tot m xs) (hb : Below w.heap.size w w') : Fill w' g e tot m xs := by
 obtain ⟨cs, h1, h2, h3⟩ := h
 exact ⟨cs, h1.ext hb, h2, h3⟩
theorem Fill.lt (h : Fill w g e tot m xs) : g < w.heap.size := by
 obtain ⟨cs, h1, _⟩ := h
 exact h1.lt
theorem Fill.cell (h : Fill w g e tot m xs) {j : Nat} (hj : j < tot) : ∃ v, w.cell? ⟨g, j, none⟩ = some v := by
 obtain ⟨cs, h1, h2, _⟩ := h
 exact ⟨cs[j]'(by omega), by rw [h1.cell]; exact Array.getElem?_eq_getElem (by omega)⟩
theorem Fill.frozen (h : Fill w g e tot m xs) (j : Nat) : w.frozen? ⟨g, j, none⟩ = false := by
 obtain ⟨cs, h1, _⟩ := h
 exact h1.frozen j
theorem Fill.step (h : Fill w g e tot m xs) (hm : m < tot) {u : Value} (hu : xs[m]? = some u) : Fill (w.setCell ⟨g, m, none⟩ u) g e tot (m + 1) xs := by
 obtain ⟨cs, h1, h2, h3⟩ := h
 refine ⟨_, h1.set_ m u, by simpa using h2, fun j hj => ?_⟩
 by_cases hjm : j = m
 · subst hjm
   simp [hu, h2, hm]
 · rw [Array.getElem?_setIfInBounds_ne (by omega)]
   exact h3 j (by omega)
theorem Fill.step2 {u0 u1 : Value} (h : Fill w g e tot m xs) (hm : m + 1 < tot) (h0 : xs[m]? = some u0) (h1 : xs[m + 1]? = some u1) : Fill ((w.setCell ⟨g, m, none⟩ u0).setCell ⟨g, m + 1, none⟩ u1) g e tot (m + 2) xs := by
 have s1 := h.step (m := m) (by omega) h0
 have s2 := s1.step (m := m + 1) (by omega) h1
 exact s2
theorem Fill.step3 {u0 u1 u2 : Value} (h : Fill w g e tot m xs) (hm : m + 2 < tot) (h0 : xs[m]? = some u0) (h1 : xs[m + 1]? = some u1) (h2 : xs[m + 2]? = some u2) : Fill (((w.setCell ⟨g, m, none⟩ u0).setCell ⟨g, m + 1, none⟩ u1).setCell ⟨g, m + 2, none⟩ u2) g e tot (m + 3) xs := by
 have s1 := h.step (m := m) (by omega) h0
 have s2 := s1.step (m := m + 1) (by omega) h1
 have s3 := s2.step (m := m + 2) (by omega) h2
 exact s3
theorem Fill.step4 {u0 u1 u2 u3 : Value} (h : Fill w g e tot m xs) (hm : m + 3 < tot) (h0 : xs[m]? = some u0) (h1 : xs[m + 1]? = some u1) (h2 : xs[m + 2]? = some u2) (h3 : xs[m + 3]? = some u3) : Fill ((((w.setCell ⟨g, m, none⟩ u0).setCell ⟨g, m + 1, none⟩ u1).setCell ⟨g, m + 2, none⟩ u2).setCell ⟨g, m + 3, none⟩ u3) g e tot (m + 4) xs := by
 have s1 := h.step (m := m) (by omega) h0
 have s2 := s1.step (m := m + 1) (by omega) h1
 have s3 := s2.step (m := m + 2) (by omega) h2
 have s4 := s3.step (m := m + 3) (by omega) h3
 exact s4
theorem Fill.step5 {u0 u1 u2 u3 u4 : Value} (h : Fill w g e tot m xs) (hm : m + 4 < tot) (h0 : xs[m]? = some u0) (h1 : xs[m + 1]? = some u1) (h2 : xs[m + 2]? = some u2) (h3 : xs[m + 3]? = some u3) (h4 : xs[m + 4]? = some u4) : Fill (((((w.setCell ⟨g, m, none⟩ u0).setCell ⟨g, m + 1, none⟩ u1).setCell ⟨g, m + 2, none⟩ u2).setCell ⟨g, m + 3, none⟩ u3).setCell ⟨g, m + 4, none⟩ u4) g e tot (m + 5) xs := by
 have s1 := h.step (m := m) (by omega) h0
 have s2 := s1.step (m := m + 1) (by omega) h1
 have s3 := s2.step (m := m + 2) (by omega) h2
 have s4 := s3.step (m := m + 3) (by omega) h3
 have s5 := s4.step (m := m + 4) (by omega) h4
 exact s5
theorem below_set1 {u0 : Value} {w w1 : World} {g m : Nat} (h : Below w.heap.size w w1) (hg : w.heap.size ≤ g) : Below w.heap.size w (w1.setCell ⟨g, m, none⟩ u0) := by
 exact (ext_set h hg _)
theorem below_set2 {u0 u1 : Value} {w w1 : World} {g m : Nat} (h : Below w.heap.size w w1) (hg : w.heap.size ≤ g) : Below w.heap.size w ((w1.setCell ⟨g, m, none⟩ u0).setCell ⟨g, m + 1, none⟩ u1) := by
 exact (ext_set (ext_set h hg _) hg _)
theorem below_set3 {u0 u1 u2 : Value} {w w1 : World} {g m : Nat} (h : Below w.heap.size w w1) (hg : w.heap.size ≤ g) : Below w.heap.size w (((w1.setCell ⟨g, m, none⟩ u0).setCell ⟨g, m + 1, none⟩ u1).setCell ⟨g, m + 2, none⟩ u2) := by
 exact (ext_set (ext_set (ext_set h hg _) hg _) hg _)
theorem below_set4 {u0 u1 u2 u3 : Value} {w w1 : World} {g m : Nat} (h : Below w.heap.size w w1) (hg : w.heap.size ≤ g) : Below w.heap.size w ((((w1.setCell ⟨g, m, none⟩ u0).setCell ⟨g, m + 1, none⟩ u1).setCell ⟨g, m + 2, none⟩ u2).setCell ⟨g, m + 3, none⟩ u3) := by
 exact (ext_set (ext_set (ext_set (ext_set h hg _) hg _) hg _) hg _)
theorem below_set5 {u0 u1 u2 u3 u4 : Value} {w w1 : World} {g m : Nat} (h : Below w.heap.size w w1) (hg : w.heap.size ≤ g) : Below w.heap.size w (((((w1.setCell ⟨g, m, none⟩ u0).setCell ⟨g, m + 1, none⟩ u1).setCell ⟨g, m + 2, none⟩ u2).setCell ⟨g, m + 3, none⟩ u3).setCell ⟨g, m + 4, none⟩ u4) := by
 exact (ext_set (ext_set (ext_set (ext_set (ext_set h hg _) hg _) hg _) hg _) hg _)
theorem Fill.done {base n size : Nat} (h : Fill w g e (n * size) (n * size) xs) (hb : base ≤ g) (hn : n ≤ maxLen) (hx : xs.length = n * size) : w.ownsRow base e size (.slice (some ⟨g, 0, none⟩) n n) n xs := by
 obtain ⟨cs, h1, h2, h3⟩ := h
 refine ⟨hx, .inr ⟨g, n, cs, rfl, hb, h1, Nat.le_refl _, hn, h2, ?_⟩⟩
 apply List.ext_getElem?
 intro j
 rw [List.getElem?_take]
 by_cases hj : j < n * size
 · rw [if_pos hj, ← h3 j hj]; simp
 · rw [if_neg hj, List.getElem?_eq_none (by omega)]
theorem Fill.start {base n size c : Nat} {ys : List Value} (h : w.ownsRow base e size (.slice (some ⟨g, 0, none⟩) n n) n ys) : Fill w g e (n * size) 0 xs := by
 rcases h.2 with ⟨h0, _⟩ | ⟨g', cap, cur, hv, _, hh, _, _, hs, _⟩
 · cases h0
 · injection hv with hv h1 h2
   injection hv with hv
   injection hv with hv
   subst hv h2
   exact ⟨cur, hh, hs, fun j hj => absurd hj (by omega)⟩
end
end Go.Proofs.Ytaghjaiaoajpiaa
