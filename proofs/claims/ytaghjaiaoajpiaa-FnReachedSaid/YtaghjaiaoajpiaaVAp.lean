/- append of a row of the call's own onto another; blocks of different types are different blocks. -/
import Derived.Test.YtaghjaiaoajpiaaVM1
import Derived.Maps.AppendAt
namespace Go.Proofs.Ytaghjaiaoajpiaa
open Go.RowKit
set_option linter.unusedVariables false
set_option linter.unusedSimpArgs false
theorem own_src {w : World} {B e size m c : Nat} {A : Option Addr} {ys : List Value} (h : w.ownsRow B e size (.slice A m c) m ys) : (A = none → m = 0 ∧ c = 0) ∧ ∀ ad, A = some ad → ∀ j u, ys[j]? = some u → w.cell? (ad.add j) = some u := by
 refine ⟨fun hA => ?_, fun ad hA j u hu => ?_⟩
 · subst hA
   rcases h.2 with ⟨h1, _⟩ | ⟨g, cap, cur, hv, _⟩
   · injection h1 with _ h2 h3; exact ⟨h2, h3⟩
   · cases hv
 · subst hA
   rcases h.2 with ⟨h1, _⟩ | ⟨g, cap, cur, hv, _⟩
   · cases h1
   · injection hv with hv
     injection hv with hv
     subst hv
     exact h.cells rfl j u hu
theorem run_appO {P : Program} (w : World) (t ty : TypeId) (base : Nat) (e : TypeId) (i : TypeInfo) (z : Value) (size bytes : Nat) (ht : P.underlying t = some (.slice e)) (hi : P.info? e = some i) (hz : i.zero = some z)
 (hsize : i.size = size) (hby : i.bytes = bytes) (hzs : z.cells.size = size) (hsz : 0 < size)
 (v : Value) (n : Nat) (xs : List Value) (hown : w.ownsRow base e size v n xs)
 (A : Option Addr) (m c : Nat) (ys : List Value) (hl : ys.length = m * size) (hno : A = none → m = 0 ∧ c = 0) (hnews : ∀ ad, A = some ad → ∀ j u, ys[j]? = some u → w.cell? (ad.add j) = some u) (h1 : ∀ u ∈ ys, u.oneCell' = true)
 (h63 : n + m ≤ maxLen) (hbytes : (n + m) * bytes ≤ 140737488355328) (hbase : base ≤ w.heap.size) :
 ∃ v' w', (Builtin.append_ #[t, t] ty #[v, .slice A m c]).run P w = .ok v' w' ∧ w'.ownsRow base e size v' (n + m) (xs ++ ys) ∧ w.grownBy w' v.ownBlock ∧ (v'.ownBlock = v.ownBlock ∨ v'.ownBlock = some w.heap.size) := by
 rcases A with _ | ad
 · obtain ⟨rfl, rfl⟩ := hno rfl
   obtain rfl : ys = [] := List.eq_nil_of_length_eq_zero (by rw [hl]; simp)
   exact ⟨v, w, run_append_owned_none (P := P) w base t ty e i size ht hi v n xs hown, by simpa using hown, World.grownBy.refl _ _, .inl rfl⟩
 · obtain ⟨v', w', hr, h2, h3, _, h5⟩ := run_append_own_at (P := P) w base t ty e i z size bytes ht hi hz hsize hby hzs hsz v n xs hown ad m c ys hl (hnews ad rfl) h1 h63 hbytes hbase
   exact ⟨v', w', hr, h2, h3, h5⟩
section
variable {P : Program} {w : World} {ops : Array Oper} {rest : List Oper} {o : Oper} {a : Act} {Q : Exit → Act → World → Prop} {K : Act → World → Prop} {E : Prop}
theorem wp_appO (s x : Operand) (t : TypeId) (ho : o.op = .call { callee := .builtin .append, args := #[s, x], argTypes := #[t, t] })
 (base : Nat) (e : TypeId) (i : TypeInfo) (z : Value) (size bytes : Nat) (ht : P.underlying t = some (.slice e)) (hi : P.info? e = some i) (hz : i.zero = some z)
 (hsize : i.size = size) (hby : i.bytes = bytes) (hzs : z.cells.size = size) (hsz : 0 < size)
 (v : Value) (n : Nat) (xs : List Value) (hs : a.eval s = v) (hown : w.ownsRow base e size v n xs)
 (A : Option Addr) (m c : Nat) (ys : List Value) (hx : a.eval x = .slice A m c) (hl : ys.length = m * size) (hno : A = none → m = 0 ∧ c = 0) (hnews : ∀ ad, A = some ad → ∀ j u, ys[j]? = some u → w.cell? (ad.add j) = some u) (h1 : ∀ u ∈ ys, u.oneCell' = true)
 (h63 : n + m ≤ maxLen) (hbytes : (n + m) * bytes ≤ 140737488355328) (hbase : base ≤ w.heap.size)
 (h : ∀ A' c' w', w'.ownsRow base e size (.slice A' (n + m) c') (n + m) (xs ++ ys) → w.grownBy w' v.ownBlock → K (a.put o.dst (.slice A' (n + m) c')) w') : o.wp P a w K Q := by
 obtain ⟨v', w', hr, h2, h3, h4⟩ := run_appO (P := P) w t o.type base e i z size bytes ht hi hz hsize hby hzs hsz v n xs hown A m c ys hl hno hnews h1 h63 hbytes hbase
 unfold Oper.wp execOp
 simp only [ho, resolve, invoke, builtin, Sem.run_bind, Sem.run_pure, Result.andThen_ok, List.map_toArray, List.map_cons, List.map_nil, hs, hx, hr]
 obtain ⟨A', c', rfl⟩ := own_shape h2
 exact h A' c' w' h2 h3
/-- the source is a row of the call's own -/
theorem wpList_appO (hgd : o.guard = none) (s x : Operand) (t : TypeId) (ho : o.op = .call { callee := .builtin .append, args := #[s, x], argTypes := #[t, t] })
 (base : Nat) (e : TypeId) (i : TypeInfo) (z : Value) (size bytes : Nat) (ht : P.underlying t = some (.slice e)) (hi : P.info? e = some i) (hz : i.zero = some z)
 (hsize : i.size = size) (hby : i.bytes = bytes) (hzs : z.cells.size = size) (hsz : 0 < size)
 (v : Value) (n : Nat) (xs : List Value) (hs : a.eval s = v) (hown : w.ownsRow base e size v n xs)
 (A : Option Addr) (m c : Nat) (ys : List Value) (hx : a.eval x = .slice A m c) (B : Nat) (hsrc : w.ownsRow B e size (.slice A m c) m ys) (h1 : ∀ u ∈ ys, u.oneCell' = true)
 (h63 : n + m ≤ maxLen) (hbytes : (n + m) * bytes ≤ 140737488355328) (hbase : base ≤ w.heap.size)
 (h : ∀ A' c' w', w'.ownsRow base e size (.slice A' (n + m) c') (n + m) (xs ++ ys) → w.grownBy w' v.ownBlock → wpList P ops Q rest (a.put o.dst (.slice A' (n + m) c')) w') :
 wpList P ops Q (o :: rest) a w :=
 wpList_plain hgd fun _ hK => wp_appO s x t ho base e i z size bytes ht hi hz hsize hby hzs hsz v n xs hs hown A m c ys hx hsrc.1 (own_src hsrc).1 (own_src hsrc).2 h1 h63 hbytes hbase fun A' c' w' h2 h3 => hK _ _ (h A' c' w' h2 h3)
/-- the source is read somewhere -/
theorem wpList_appR (hgd : o.guard = none) (s x : Operand) (t : TypeId) (ho : o.op = .call { callee := .builtin .append, args := #[s, x], argTypes := #[t, t] })
 (base : Nat) (e : TypeId) (i : TypeInfo) (z : Value) (size bytes : Nat) (ht : P.underlying t = some (.slice e)) (hi : P.info? e = some i) (hz : i.zero = some z)
 (hsize : i.size = size) (hby : i.bytes = bytes) (hzs : z.cells.size = size) (hsz : 0 < size)
 (v : Value) (n : Nat) (xs : List Value) (hs : a.eval s = v) (hown : w.ownsRow base e size v n xs)
 (A : Option Addr) (m c : Nat) (ys : List Value) (hx : a.eval x = .slice A m c) (B : Nat) (hm : 0 < m) (hsrc : Reads w B size A m ys) (h1 : ∀ u ∈ ys, u.oneCell' = true)
 (h63 : n + m ≤ maxLen) (hbytes : (n + m) * bytes ≤ 140737488355328) (hbase : base ≤ w.heap.size)
 (h : ∀ A' c' w', w'.ownsRow base e size (.slice A' (n + m) c') (n + m) (xs ++ ys) → w.grownBy w' v.ownBlock → wpList P ops Q rest (a.put o.dst (.slice A' (n + m) c')) w') :
 wpList P ops Q (o :: rest) a w := by
 obtain ⟨b, off, hA, _, hc⟩ := hsrc.2 hm
 exact wpList_plain hgd fun _ hK => wp_appO s x t ho base e i z size bytes ht hi hz hsize hby hzs hsz v n xs hs hown A m c ys hx hsrc.1 (fun e => by rw [hA] at e; cases e) (fun ad e j u hu => by rw [hA] at e; injection e with e; subst e; rw [add_flat]; exact hc j u hu) h1 h63 hbytes hbase fun A' c' w' h2 h3 => hK _ _ (h A' c' w' h2 h3)
/-- at a step of a region that draws its order: the source is a row of the call's own -/
theorem step_appO (hgd : o.guard = none) (s x : Operand) (t : TypeId) (ho : o.op = .call { callee := .builtin .append, args := #[s, x], argTypes := #[t, t] })
 (base : Nat) (e : TypeId) (i : TypeInfo) (z : Value) (size bytes : Nat) (ht : P.underlying t = some (.slice e)) (hi : P.info? e = some i) (hz : i.zero = some z)
 (hsize : i.size = size) (hby : i.bytes = bytes) (hzs : z.cells.size = size) (hsz : 0 < size)
 (v : Value) (n : Nat) (xs : List Value) (hs : a.eval s = v) (hown : w.ownsRow base e size v n xs)
 (A : Option Addr) (m c : Nat) (ys : List Value) (hx : a.eval x = .slice A m c) (B : Nat) (hsrc : w.ownsRow B e size (.slice A m c) m ys) (h1 : ∀ u ∈ ys, u.oneCell' = true)
 (h63 : n + m ≤ maxLen) (hbytes : (n + m) * bytes ≤ 140737488355328) (hbase : base ≤ w.heap.size)
 (h : ∀ A' c' w', w'.ownsRow base e size (.slice A' (n + m) c') (n + m) (xs ++ ys) → w.grownBy w' v.ownBlock → K (a.put o.dst (.slice A' (n + m) c')) w') :
 if Region.wanted o (yielded ops a.tmps) = true then Oper.wp P o a w K Q else E := by
 rw [if_pos (by simp [Region.wanted, hgd])]
 exact wp_appO s x t ho base e i z size bytes ht hi hz hsize hby hzs hsz v n xs hs hown A m c ys hx hsrc.1 (own_src hsrc).1 (own_src hsrc).2 h1 h63 hbytes hbase h
/-- the same, the source read somewhere -/
theorem step_appR (hgd : o.guard = none) (s x : Operand) (t : TypeId) (ho : o.op = .call { callee := .builtin .append, args := #[s, x], argTypes := #[t, t] })
 (base : Nat) (e : TypeId) (i : TypeInfo) (z : Value) (size bytes : Nat) (ht : P.underlying t = some (.slice e)) (hi : P.info? e = some i) (hz : i.zero = some z)
 (hsize : i.size = size) (hby : i.bytes = bytes) (hzs : z.cells.size = size) (hsz : 0 < size)
 (v : Value) (n : Nat) (xs : List Value) (hs : a.eval s = v) (hown : w.ownsRow base e size v n xs)
 (A : Option Addr) (m c : Nat) (ys : List Value) (hx : a.eval x = .slice A m c) (B : Nat) (hm : 0 < m) (hsrc : Reads w B size A m ys) (h1 : ∀ u ∈ ys, u.oneCell' = true)
 (h63 : n + m ≤ maxLen) (hbytes : (n + m) * bytes ≤ 140737488355328) (hbase : base ≤ w.heap.size)
 (h : ∀ A' c' w', w'.ownsRow base e size (.slice A' (n + m) c') (n + m) (xs ++ ys) → w.grownBy w' v.ownBlock → K (a.put o.dst (.slice A' (n + m) c')) w') :
 if Region.wanted o (yielded ops a.tmps) = true then Oper.wp P o a w K Q else E := by
 rw [if_pos (by simp [Region.wanted, hgd])]
 obtain ⟨b, off, hA, _, hc⟩ := hsrc.2 hm
 exact wp_appO s x t ho base e i z size bytes ht hi hz hsize hby hzs hsz v n xs hs hown A m c ys hx hsrc.1 (fun e => by rw [hA] at e; cases e) (fun ad e j u hu => by rw [hA] at e; injection e with e; subst e; rw [add_flat]; exact hc j u hu) h1 h63 hbytes hbase h
end
/-- a slice that is made anew, at its block's number -/
theorem own_lit_at (w0 : World) (E size : Nat) {H B : Nat} (hH : H = w0.heap.size) (hB : B ≤ H) : (w0.alloc (.cells #[] E)).ownsRow B E size (.slice (some ⟨H, 0, none⟩) 0 0) 0 [] := by
 subst hH
 exact own_base (own_lit0 w0 E size) hB
theorem Blk.born (w : World) (cs : Array Value) (t : TypeId) {H : Nat} (hH : H = w.heap.size) : Blk (w.alloc (.cells cs t)) H t cs := by
 subst hH
 unfold Blk
 simp [World.alloc, -World.alloc_eq]
section
variable {w w' : World} {g b : Nat} {t : TypeId} {cs : Array Value} {base e size n : Nat} {v : Value} {xs : List Value}
/-- blocks of other types -/
theorem own_nbT (h : w.ownsRow base e size v n xs) (hb : Blk w b t cs) (ht : t ≠ e) : v.ownBlock ≠ some b := by
 rcases h.2 with ⟨rfl, _⟩ | ⟨g, cap, cur, rfl, _, hg, _, _, _, _⟩
 · intro h; cases h
 · intro e2
   have e2 : some g = some b := e2
   injection e2 with e2
   subst e2
   unfold Blk at hb
   rw [hb] at hg
   injection hg with hg
   injection hg with _ hg
   exact ht hg
theorem own_setF (h : w.ownsRow base e size v n xs) {p : Addr} (hne : v.ownBlock ≠ some p.block) (u : Value) : (w.setCell p u).ownsRow base e size v n xs :=
 h.kept (row := some p.block) (only_setCell (World.grownBy.refl _ _) (.inl rfl) u) (.inr hne)
theorem Blk.setF (h : Blk w g t cs) {p : Addr} (hp : p.block ≠ g) (u : Value) : Blk (w.setCell p u) g t cs := (Below.heap_setCell w p u g (fun e => hp e.symm)).trans h
theorem Blk.grownF {row : Option Nat} (h : Blk w g t cs) (hg : w.grownBy w' row) (hne : row ≠ some g) : Blk w' g t cs := (hg.block g h.lt (Ne.symm hne)).trans h
theorem Blk.al (h : Blk w g t cs) (o : Obj) : Blk (w.alloc o) g t cs := h.ext (ext_alloc (ext_refl w) o)
theorem Blk.below {B : Nat} (h : Blk w g t cs) (hb : Below B w w') (hB : g < B) : Blk w' g t cs := (hb.block g hB).trans h
theorem own_neT {B1 B2 E1 s1 n1 E2 s2 n2 : Nat} {v1 v2 : Value} {xs ys : List Value} (h1 : w.ownsRow B1 E1 s1 v1 n1 xs) (h2 : w.ownsRow B2 E2 s2 v2 n2 ys) (hne : E1 ≠ E2) : v1.ownBlock = none ∨ v1.ownBlock ≠ v2.ownBlock := by
 rcases h1.2 with ⟨rfl, _⟩ | ⟨g, cap, cur, rfl, _, hg, _, _, _, _⟩
 · exact .inl rfl
 · refine .inr fun e => ?_
   have e : some g = v2.ownBlock := e
   exact own_nbT h2 (b := g) (t := E1) (cs := cur) hg hne e.symm
/-- a row that grew lies above its base: what was below is as it was -/
theorem below_row {B : Nat} (h : w.ownsRow B e size v n xs) (hg : w.grownBy w' v.ownBlock) (hB : B ≤ w.heap.size) : Below B w w' :=
 (Below.refl _ _).grown hg hB (fun k hk => (h.lt k hk).1)
end
section
variable {P : Program} {W0 : World} {ops : Array Oper} {rest : List Oper} {o : Oper} {a : Act} {Q : Exit → Act → World → Prop} {K : Act → World → Prop} {E : Prop}
theorem wp_appNew (s x : Operand) (t e : TypeId) (ho : o.op = .call { callee := .builtin .append, args := #[s, x], argTypes := #[t, t] })
 (i : TypeInfo) (z : Value) (size bytes H : Nat) (ht : P.underlying t = some (.slice e)) (hi : P.info? e = some i) (hz : i.zero = some z)
 (hsize : i.size = size) (hby : i.bytes = bytes) (hzs : z.cells.size = size) (hsz : 0 < size)
 (hs : a.eval s = .slice (some ⟨H, 0, none⟩) 0 0) (hH : H = W0.heap.size)
 (A : Option Addr) (m c : Nat) (ys : List Value) (hx : a.eval x = .slice A m c) (B : Nat) (hm : 0 < m) (hsrc : Reads W0 B size A m ys) (hB : B ≤ W0.heap.size) (h1 : ∀ u ∈ ys, u.oneCell' = true)
 (h63 : m ≤ maxLen) (hbytes : m * bytes ≤ 140737488355328)
 (h : ∀ g cap w', w'.ownsRow W0.heap.size e size (.slice (some ⟨g, 0, none⟩) m cap) m ys → Below W0.heap.size W0 w' → W0.heap.size < w'.heap.size → K (a.put o.dst (.slice (some ⟨g, 0, none⟩) m cap)) w') : o.wp P a (W0.alloc (.cells #[] e)) K Q := by
 have hown := own_lit_at W0 e size hH (Nat.le_of_eq hH.symm)
 have hsrc' := hsrc.below ((ext_alloc (ext_refl W0) (.cells #[] e)).mono hB)
 obtain ⟨b, off, hA, _, hc⟩ := hsrc'.2 hm
 refine wp_appO s x t ho W0.heap.size e i z size bytes ht hi hz hsize hby hzs hsz _ 0 [] hs hown A m c ys hx hsrc.1 (fun e => by rw [hA] at e; cases e) (fun ad e j u hu => by rw [hA] at e; injection e with e; subst e; rw [add_flat]; exact hc j u hu) h1 (by rw [Nat.zero_add]; exact h63) (by rw [Nat.zero_add]; exact hbytes) (by simp) ?_
 intro A' c' w' h2 h3
 rw [Nat.zero_add, List.nil_append] at h2
 obtain ⟨g, cap, hv, _, _⟩ := h2.form hm
 injection hv with hv1 _ _
 subst hv1
 rw [Nat.zero_add] at *
 have hs4 := h3.size
 rw [World.size_alloc] at hs4
 exact h g _ w' h2 ((ext_alloc (ext_refl W0) _).trans (below_row hown h3 (by simp))) (Nat.lt_of_succ_le hs4)
theorem wpList_appNew (hgd : o.guard = none) (s x : Operand) (t e : TypeId) (ho : o.op = .call { callee := .builtin .append, args := #[s, x], argTypes := #[t, t] })
 (i : TypeInfo) (z : Value) (size bytes H : Nat) (ht : P.underlying t = some (.slice e)) (hi : P.info? e = some i) (hz : i.zero = some z)
 (hsize : i.size = size) (hby : i.bytes = bytes) (hzs : z.cells.size = size) (hsz : 0 < size)
 (hs : a.eval s = .slice (some ⟨H, 0, none⟩) 0 0) (hH : H = W0.heap.size)
 (A : Option Addr) (m c : Nat) (ys : List Value) (hx : a.eval x = .slice A m c) (B : Nat) (hm : 0 < m) (hsrc : Reads W0 B size A m ys) (hB : B ≤ W0.heap.size) (h1 : ∀ u ∈ ys, u.oneCell' = true)
 (h63 : m ≤ maxLen) (hbytes : m * bytes ≤ 140737488355328)
 (h : ∀ g cap w', w'.ownsRow W0.heap.size e size (.slice (some ⟨g, 0, none⟩) m cap) m ys → Below W0.heap.size W0 w' → W0.heap.size < w'.heap.size → wpList P ops Q rest (a.put o.dst (.slice (some ⟨g, 0, none⟩) m cap)) w') :
 wpList P ops Q (o :: rest) a (W0.alloc (.cells #[] e)) :=
 wpList_plain hgd fun _ hK => wp_appNew s x t e ho i z size bytes H ht hi hz hsize hby hzs hsz hs hH A m c ys hx B hm hsrc hB h1 h63 hbytes fun g cap w' h2 h3 h4 => hK _ _ (h g cap w' h2 h3 h4)
theorem step_appNew (hgd : o.guard = none) (s x : Operand) (t e : TypeId) (ho : o.op = .call { callee := .builtin .append, args := #[s, x], argTypes := #[t, t] })
 (i : TypeInfo) (z : Value) (size bytes H : Nat) (ht : P.underlying t = some (.slice e)) (hi : P.info? e = some i) (hz : i.zero = some z)
 (hsize : i.size = size) (hby : i.bytes = bytes) (hzs : z.cells.size = size) (hsz : 0 < size)
 (hs : a.eval s = .slice (some ⟨H, 0, none⟩) 0 0) (hH : H = W0.heap.size)
 (A : Option Addr) (m c : Nat) (ys : List Value) (hx : a.eval x = .slice A m c) (B : Nat) (hm : 0 < m) (hsrc : Reads W0 B size A m ys) (hB : B ≤ W0.heap.size) (h1 : ∀ u ∈ ys, u.oneCell' = true)
 (h63 : m ≤ maxLen) (hbytes : m * bytes ≤ 140737488355328)
 (h : ∀ g cap w', w'.ownsRow W0.heap.size e size (.slice (some ⟨g, 0, none⟩) m cap) m ys → Below W0.heap.size W0 w' → W0.heap.size < w'.heap.size → K (a.put o.dst (.slice (some ⟨g, 0, none⟩) m cap)) w') :
 if Region.wanted o (yielded ops a.tmps) = true then Oper.wp P o a (W0.alloc (.cells #[] e)) K Q else E := by
 rw [if_pos (by simp [Region.wanted, hgd])]
 exact wp_appNew s x t e ho i z size bytes H ht hi hz hsize hby hzs hsz hs hH A m c ys hx B hm hsrc hB h1 h63 hbytes h
end
end Go.Proofs.Ytaghjaiaoajpiaa
