
/- append in a region that draws its order, among blocks that are all new since a world. -/
import Derived.Test.YtclihlihaigddaaScVa
import Derived.Test.YtclihlihaigddaaScP
namespace Go.Proofs.Ytclihlihaigddaa
open Go.RowKit
set_option linter.unusedVariables false
set_option linter.unusedSimpArgs false
theorem wp_append_none {P : Program} {w : World} {o : Oper} {a : Act} {K : Act → World → Prop} {Q : Exit → Act → World → Prop} (s x : Operand) (t : TypeId)
    (ho : o.op = .call { callee := .builtin .append, args := #[s, x], argTypes := #[t, t] }) (base : Nat) (e : TypeId) (i : TypeInfo) (size : Nat) (ht : P.underlying t = some (.slice e)) (hi : P.info? e = some i)
    (v : Value) (n : Nat) (xs : List Value) (hs : a.eval s = v) (hown : w.ownsRow base e size v n xs) (hx : a.eval x = .slice none 0 0) (h : K (a.put o.dst v) w) : o.wp P a w K Q := by
  have hr := run_append_owned_none (P := P) w base t o.type e i size ht hi v n xs hown
  unfold Oper.wp execOp
  simp only [ho, resolve, invoke, builtin, Sem.run_bind, Sem.run_pure, Result.andThen_ok, List.map_toArray, List.map_cons, List.map_nil, hs, hx, hr]
  exact h
theorem step_app {P : Program} {w : World} {ops : Array Oper} {o : Oper} {a : Act} {K : Act → World → Prop} {Q : Exit → Act → World → Prop} {E : Prop} (hgd : o.guard = none) (s x : Operand) (t : TypeId)
    (ho : o.op = .call { callee := .builtin .append, args := #[s, x], argTypes := #[t, t] })
    (e : TypeId) (i : TypeInfo) (z : Value) (size bytes : Nat) (ht : P.underlying t = some (.slice e)) (hi : P.info? e = some i) (hz : i.zero = some z)
    (hsize : i.size = size) (hby : i.bytes = bytes) (hzs : z.cells.size = size) (hsz : 0 < size)
    (wr : World) (hbl : Below wr.heap.size wr w) (v : Value) (n : Nat) (xs : List Value) (hs : a.eval s = v) (hown : w.ownsRow wr.heap.size e size v n xs)
    (ao : Option Addr) (m c : Nat) (news : List Value) (hx : a.eval x = .slice ao m c) (hl : news.length = m * size) (hnone : ao = none → m = 0 ∧ c = 0) (hnews : ∀ ad, ao = some ad → ∀ j u, news[j]? = some u → w.cell? (ad.add j) = some u) (h1 : ∀ u ∈ news, u.oneCell' = true)
    (h63 : n + m ≤ maxLen) (hbytes : (n + m) * bytes ≤ 140737488355328)
    (h : ∀ v' w', w'.ownsRow wr.heap.size e size v' (n + m) (xs ++ news) → Below wr.heap.size wr w' → w.grownBy w' v.ownBlock → K (a.put o.dst v') w') :
    if Region.wanted o (yielded ops a.tmps) = true then Oper.wp P o a w K Q else E := by
  rw [if_pos (by simp [Region.wanted, hgd])]
  cases ao with
  | some ad =>
    exact wp_append_own w s x t ho wr.heap.size e i z size bytes ht hi hz hsize hby hzs hsz v n xs hs hown ad m c news hx hl (hnews ad rfl) h1 h63 hbytes hbl.size (fun v' w' a b _ => h v' w' a (below_grown' hown (Nat.le_refl _) hbl b) b)
  | none =>
    obtain ⟨rfl, rfl⟩ := hnone rfl
    obtain rfl : news = [] := List.eq_nil_of_length_eq_zero (by rw [hl]; simp)
    exact wp_append_none s x t ho wr.heap.size e i size ht hi v n xs hs hown hx (h v w (by simpa using hown) hbl (World.grownBy.refl _ _))
theorem own_fresh {w wr : World} (hb : wr.heap.size ≤ w.heap.size) (E size : Nat) : (w.alloc (.cells #[] E)).ownsRow wr.heap.size E size (.slice (some ⟨w.heap.size, 0, none⟩) 0 0) 0 [] := own_base (own_lit0 w E size) hb
/-- the cells of a slice that is cut out of another, behind a place -/
theorem cut_cells {w wr : World} {A : Option Addr} {n : Nat} {l : List R5} (h : Reads wr wr.heap.size 5 A n (rowsV l)) (hb : Below wr.heap.size wr w) {i : Nat} (hi : i ≤ n) (ad : Addr) (had : i < n → ∀ b o, A = some ⟨b, o, none⟩ → ad = ⟨b, o + i * 5, none⟩) :
    ∀ j u, (rowsV (l.drop i))[j]? = some u → w.cell? (ad.add j) = some u := by
  intro j u hj
  have hl := rows_len h
  have hlt := (List.getElem?_eq_some_iff.1 hj).1
  rw [rowsV_len, List.length_drop, hl] at hlt
  have hin : i < n := by omega
  obtain ⟨b, o, hA, hbb, hc⟩ := h.2 (by omega)
  rw [had hin b o hA, add_flat]
  have e1 : rowsV l = rowsV (l.take i) ++ rowsV (l.drop i) := by rw [← rowsV_app, List.take_append_drop]
  have hlen : (rowsV (l.take i)).length = i * 5 := by rw [rowsV_len, List.length_take, hl, Nat.min_eq_left hi]
  refine (hb.cell (p := ⟨b, o + i * 5 + j, none⟩) hbb).trans ?_
  rw [show o + i * 5 + j = o + (i * 5 + j) from by omega]
  refine hc _ _ ?_
  rw [e1, List.getElem?_append_right (by omega), hlen, show i * 5 + j - i * 5 = j from by omega, hj]
/-- the cells of a slice's head -/
theorem head_cells {w wr : World} {A : Option Addr} {n : Nat} {l : List R5} (h : Reads wr wr.heap.size 5 A n (rowsV l)) (hb : Below wr.heap.size wr w) {i : Nat} (hi : i ≤ n) (ad : Addr) (had : A = some ad) :
    ∀ j u, (rowsV (l.take i))[j]? = some u → w.cell? (ad.add j) = some u := by
  intro j u hj
  have hl := rows_len h
  have hlt := (List.getElem?_eq_some_iff.1 hj).1
  have hlen : (rowsV (l.take i)).length = i * 5 := by rw [rowsV_len, List.length_take, hl, Nat.min_eq_left hi]
  obtain ⟨b, o, hA, hbb, hc⟩ := h.2 (by omega)
  rw [hA] at had
  injection had with had
  subst had
  rw [add_flat]
  have e1 : rowsV l = rowsV (l.take i) ++ rowsV (l.drop i) := by rw [← rowsV_app, List.take_append_drop]
  refine (hb.cell (p := ⟨b, o + j, none⟩) hbb).trans (hc _ _ ?_)
  rw [e1, List.getElem?_append_left hlt, hj]
theorem ite_map_none {P : Prop} [Decidable P] {A : Option Addr} {f : Addr → Addr} (e : (if P then A else Option.map f A) = none) : A = none := by
  split at e
  · exact e
  · simpa using e
end Go.Proofs.Ytclihlihaigddaa
