
/- copy between slices of structs, as a law for a row of the call's own. -/
import Derived.Test.YtclihlihaigddaaScTd
import Derived.Laws.CopyOwn
namespace Go.Proofs.Ytclihlihaigddaa
open Go.RowKit
set_option linter.unusedVariables false
set_option linter.unusedSimpArgs false
theorem run_copy_zero {P : Program} (w : World) (dT sT ty elem : TypeId) (i : TypeInfo) (d a : Option Addr) (dLen dCap sLen sCap : Nat) (hu : P.underlying dT = some (.slice elem)) (hi : P.info? elem = some i) (hn : Nat.min sLen dLen = 0) :
    (Builtin.copy_ #[dT, sT] ty #[.slice d dLen dCap, .slice a sLen sCap]).run P w = .ok (goInt 0) w := by
  have hl : ∀ (x : Addr), (loadCells x 0).run P w = .ok #[] w := fun x => by simpa using run_loadCells_list (P := P) w x [] (by simp)
  cases d <;> cases a <;> simp [Builtin.copy_, run_underlying hu, Builtin.lenOf, Builtin.firstCells, sizeOf, typeInfo, hi, hn, storeCells, hl]
theorem run_copy_rows {P : Program} (w : World) (dT sT ty elem : TypeId) (i : TypeInfo) (size : Nat) (g o dLen dCap : Nat) (a : Addr) (sLen sCap : Nat) (cur : Array Value) (t : TypeId) (cs : List Value)
    (hu : P.underlying dT = some (.slice elem)) (hi : P.info? elem = some i) (hsz : i.size = size)
    (hg : w.heap[g]? = some (.cells cur t (0, 0))) (hn : cs.length = Nat.min sLen dLen * size)
    (hsrc : ∀ j v, cs[j]? = some v → w.cell? (a.add j) = some v) (hfit : o + cs.length ≤ cur.size) (h1 : ∀ v ∈ cs, v.oneCell' = true) :
    (Builtin.copy_ #[dT, sT] ty #[.slice (some ⟨g, o, none⟩) dLen dCap, .slice (some a) sLen sCap]).run P w =
      .ok (goInt (Nat.min sLen dLen)) (w.setRow g (cur.toList.take o ++ cs ++ cur.toList.drop (o + cs.length)).toArray) := by
  have hl := run_loadCells_list (P := P) w a cs hsrc
  have hst := run_storeCells_at P g o t cs 0 cur w hg (by simpa using hfit) h1
  simp [Builtin.copy_, run_underlying hu, Builtin.lenOf, Builtin.firstCells, sizeOf, typeInfo, hi, hsz, ← hn, hl, hst]
theorem own_setRow {w : World} {base e size n c g : Nat} {xs : List Value} {off : Nat} {cs : List Value} (cur : Array Value) (hcur : w.heap[g]? = some (.cells cur e (0, 0)))
    (h : w.ownsRow base e size (.slice (some ⟨g, 0, none⟩) n c) n xs) (hfit : off + cs.length ≤ n * size) :
    (w.setRow g (cur.toList.take off ++ cs ++ cur.toList.drop (off + cs.length)).toArray).ownsRow base e size (.slice (some ⟨g, 0, none⟩) n c) n (splice xs off cs) := by
  rcases h.2 with ⟨h', _⟩ | ⟨g', cap', cur', h', hb, hg, hnc, hcm, hcs, htake⟩
  · simp at h'
  · simp only [Value.slice.injEq, Option.some.injEq, Addr.mk.injEq, and_true, true_and] at h'
    obtain ⟨rfl, rfl⟩ := h'
    rw [hcur] at hg
    injection hg with hg
    injection hg with hg
    subst hg
    have hlen : n * size ≤ cur.size := by rw [hcs]; exact Nat.mul_le_mul_right _ hnc
    refine ⟨by rw [length_splice _ _ _ (by rw [h.1]; exact hfit)]; exact h.1, .inr ⟨g, c, _, rfl, hb, setRow_heap w g cur _ e _ hcur, hnc, hcm, ?_, ?_⟩⟩
    · simp only [List.size_toArray, List.length_append, List.length_take, List.length_drop, Array.length_toList]
      omega
    · rw [← htake]
      unfold splice
      simp only []
      apply List.ext_getElem?
      intro k
      simp only [List.getElem?_take, List.getElem?_append, List.length_append, List.length_take, List.getElem?_drop, Array.length_toList]
      by_cases hk : k < n * size
      · simp only [hk, if_true]
        by_cases h1 : k < off
        · have a1 : k < min off cur.size := by omega
          have a2 : k < min off cur.size + cs.length := by omega
          have a3 : k < min off (min (n * size) cur.size) := by omega
          simp [h1, a1, a2, a3, hk]
        · by_cases h2 : k < off + cs.length
          · have a1 : ¬ k < min off cur.size := by omega
            have a2 : k < min off cur.size + cs.length := by omega
            have a3 : ¬ k < min off (min (n * size) cur.size) := by omega
            have a4 : k - min off (min (n * size) cur.size) < cs.length := by omega
            have a5 : min off (min (n * size) cur.size) = min off cur.size := by omega
            simp [a1, a2, a3, a5]
            omega
          · have a1 : ¬ k < min off cur.size := by omega
            have a2 : ¬ k < min off cur.size + cs.length := by omega
            have a3 : ¬ k < min off (min (n * size) cur.size) := by omega
            have a4 : ¬ k - min off (min (n * size) cur.size) < cs.length := by omega
            have a6 : off + cs.length + (k - (min off cur.size + cs.length)) = k := by omega
            have a7 : off + cs.length + (k - min off (min (n * size) cur.size) - cs.length) = k := by omega
            simp [a2, a3, a4, a6, a7, hk]
      · simp only [hk, if_false]
        have a3 : ¬ k < min off (min (n * size) cur.size) := by omega
        have a4 : ¬ k - min off (min (n * size) cur.size) < cs.length := by omega
        have a7 : ¬ off + cs.length + (k - min off (min (n * size) cur.size) - cs.length) < n * size := by omega
        simp [a3, a4, a7]
theorem wpList_copy_rows {P : Program} {w : World} {ops : Array Oper} {rest : List Oper} {o : Oper} {a : Act} {Q : Exit → Act → World → Prop} (hgd : o.guard = none) (d s : Operand) (dT sT : TypeId)
    (ho : o.op = .call { callee := .builtin .copy, args := #[d, s], argTypes := #[dT, sT] }) (elem : TypeId) (i : TypeInfo) (size : Nat) (hu : P.underlying dT = some (.slice elem)) (hi : P.info? elem = some i) (hsz : i.size = size)
    (dp sp : Option Addr) (dLen dCap sLen sCap : Nat) (hd : a.eval d = .slice dp dLen dCap) (hs : a.eval s = .slice sp sLen sCap)
    (base g n c : Nat) (xs : List Value) (hown : w.ownsRow base elem size (.slice (some ⟨g, 0, none⟩) n c) n xs) (off : Nat) (cs : List Value) (hn : cs.length = Nat.min sLen dLen * size)
    (hpos : 0 < Nat.min sLen dLen → dp = some ⟨g, off, none⟩ ∧ ∃ ad, sp = some ad ∧ ∀ j v, cs[j]? = some v → w.cell? (ad.add j) = some v)
    (hfit : off + cs.length ≤ n * size) (h1 : ∀ v ∈ cs, v.oneCell' = true)
    (h : ∀ w', w'.ownsRow base elem size (.slice (some ⟨g, 0, none⟩) n c) n (splice xs off cs) → w.grownBy w' (some g) → wpList P ops Q rest (a.put o.dst (goInt (Nat.min sLen dLen))) w') :
    wpList P ops Q (o :: rest) a w := by
  by_cases h0 : Nat.min sLen dLen = 0
  · have hcs : cs = [] := List.eq_nil_of_length_eq_zero (by rw [hn, h0]; simp)
    subst hcs
    refine wpList_plain hgd fun K hK => ?_
    have hrun := run_copy_zero (P := P) w dT sT o.type elem i dp sp dLen dCap sLen sCap hu hi h0
    unfold Oper.wp
    simp [execOp, ho, resolve, invoke, builtin, hd, hs, hrun, Result.andThen]
    have := h w (by simpa [splice] using hown) (World.grownBy.refl _ _)
    rw [h0] at this
    exact hK _ _ this
  · obtain ⟨rfl, ad, rfl, hsrc⟩ := hpos (by omega)
    rcases hown.2 with ⟨h', _⟩ | ⟨g', cap', cur, h', hb, hg, hnc, hcm, hcsz, htake⟩
    · simp at h'
    · simp only [Value.slice.injEq, Option.some.injEq, Addr.mk.injEq, and_true, true_and] at h'
      obtain ⟨rfl, rfl⟩ := h'
      have hlen : n * size ≤ cur.size := by rw [hcsz]; exact Nat.mul_le_mul_right _ hnc
      refine wpList_plain hgd fun K hK => ?_
      have hrun := run_copy_rows (P := P) w dT sT o.type elem i size g off dLen dCap ad sLen sCap cur elem cs hu hi hsz hg hn hsrc (by omega) h1
      unfold Oper.wp
      simp only [execOp, ho, resolve, invoke, builtin, hd, hs, hrun, Result.andThen, List.map_toArray, List.map_cons, List.map_nil, Sem.run_bind, Sem.run_pure]
      exact hK _ _ (h _ (own_setRow cur hg hown hfit) ⟨rfl, rfl, rfl, by simp, fun k _ hk => setRow_other w g k _ (fun e => hk (by simp [e]))⟩)
end Go.Proofs.Ytclihlihaigddaa
