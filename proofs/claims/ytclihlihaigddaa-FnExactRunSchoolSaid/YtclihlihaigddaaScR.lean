
/- A step of a school, plainly: what the reference asks first; each kind by itself. -/
import Derived.Test.YtclihlihaigddaaScS
import Derived.Test.YtclihlihaigddaaScO
namespace Go.Proofs.Ytclihlihaigddaa
open Go.RowKit
set_option linter.unusedVariables false
set_option linter.unusedSimpArgs false
/-- the reference's first question -/
def stepOk (l : List R5) (k id v : Int) : Bool :=
  if k = 1 then decide (id = 0 ∧ 1 ≤ v)
  else if k = 2 then inB id 1 99 && decide (findI l id < 0) && inB v 0 5
  else if k = 3 then decide (0 ≤ findI l id) && inB v 1 20
  else if k = 4 then decide (0 ≤ findI l id) && inB v 0 100
  else if k = 5 then decide (0 ≤ findI l id) && inB v 1 365
  else decide (k = 6) && decide (0 ≤ findI l id) && decide (v = 0)
theorem schB_mem {day pa le : Int} {l : List R5} (h : schB day l pa le = true) {r : R5} (hr : r ∈ l) : stuB r = true := by
  simp only [schB, Bool.and_eq_true] at h
  have h2 := h.2
  rw [okTo, List.all_eq_true] at h2
  obtain ⟨k, hk⟩ := List.mem_iff_getElem?.1 hr
  have hlt := (List.getElem?_eq_some_iff.1 hk).1
  have := h2 k (by simpa using hlt)
  rw [okAt, hk] at this
  simp only [Bool.and_eq_true] at this
  exact this.1
theorem schB_len {day pa le : Int} {l : List R5} (h : schB day l pa le = true) : l.length ≤ 8 := by
  simp only [schB, Bool.and_eq_true, decide_eq_true_eq] at h
  exact h.1.1.1.2
theorem schB_day {day pa le : Int} {l : List R5} (h : schB day l pa le = true) : 0 ≤ day ∧ day ≤ 4000 := by
  simp only [schB, Bool.and_eq_true, decide_eq_true_eq, inB_iff] at h
  exact h.1.1.1.1
theorem schB_pa {day pa le : Int} {l : List R5} (h : schB day l pa le = true) : (0 ≤ pa ∧ pa ≤ 9999) ∧ (0 ≤ le ∧ le ≤ 9999) := by
  simp only [schB, Bool.and_eq_true, decide_eq_true_eq, inB_iff] at h
  exact ⟨h.1.1.2, h.1.2⟩
theorem insS_mem (l : List R5) (id v day : Int) : (⟨id, v, 0, day, 0⟩ : R5) ∈ insS l id v day := by simp [insS]
theorem stepS_no {day pa le : Int} {l : List R5} {k id v : Int} (h : stepOk l k id v = false) : stepS day pa le l k id v = none := by
  unfold stepOk at h
  unfold stepS tryS teach
  by_cases h1 : k = 1
  · simp only [h1, if_pos, decide_eq_false_iff_not] at h ⊢
    rw [if_pos (by omega)]
    rfl
  rw [if_neg h1] at h
  rw [if_neg h1]
  by_cases h2 : k = 2
  · simp only [h2, if_pos] at h ⊢
    by_cases hc : 0 ≤ findI l id ∨ inB v 0 5 = false
    · rw [if_pos hc]; rfl
    · rw [if_neg hc]
      have hv : inB v 0 5 = true := by simpa using fun e => hc (.inr e)
      have hf : findI l id < 0 := by omega
      rw [hv, decide_eq_true hf] at h
      simp only [Bool.and_true] at h
      rw [Option.filter_some]
      rw [if_neg]
      intro hs
      have := schB_mem hs (insS_mem l id v day)
      simp [stuB, h] at this
  rw [if_neg h2] at h
  rw [if_neg h2]
  by_cases hk : k = 3 ∨ k = 4 ∨ k = 5 ∨ k = 6
  · rw [if_pos hk]
    by_cases hf : findI l id < 0
    · rw [if_pos hf]; rfl
    · rw [if_neg hf]
      have hf' : decide (0 ≤ findI l id) = true := by simpa using hf
      rcases hr : l[(findI l id).toNat]? with _ | r
      · rfl
      · simp only [hf', Bool.true_and, Bool.and_true] at h
        rcases hk with rfl | rfl | rfl | rfl
        · simp only [if_pos] at h
          simp [h]
        · simp only [if_pos] at h
          simp at h
          simp [h]
        · simp at h
          simp [h]
        · simp at h
          simp [h]
  · rw [if_neg hk]; rfl
/-- each kind, the first question said yes -/
theorem stepS_1 {day pa le : Int} {l : List R5} {id v : Int} (h : stepOk l 1 id v = true) : stepS day pa le l 1 id v = if schB (day + v) l pa le = true then some (day + v, l, pa, le) else none := by
  simp [stepOk] at h
  unfold stepS tryS
  rw [if_pos rfl, if_neg (by omega), Option.filter_some]
theorem stepS_2 {day pa le : Int} {l : List R5} {id v : Int} (h : stepOk l 2 id v = true) : stepS day pa le l 2 id v = if schB day (insS l id v day) pa le = true then some (day, insS l id v day, pa, le) else none := by
  simp [stepOk] at h
  unfold stepS tryS
  rw [if_neg (by omega), if_pos rfl, if_neg (by simp [h]), Option.filter_some]
theorem stepOk_find {l : List R5} {k id v : Int} (h : stepOk l k id v = true) (hk : k = 3 ∨ k = 4 ∨ k = 5 ∨ k = 6) : ∃ (i : Nat) (r : R5), findI l id = i ∧ l[i]? = some r ∧ r.a = id := by
  have hf : 0 ≤ findI l id := by
    rcases hk with rfl | rfl | rfl | rfl <;> simp [stepOk] at h <;> omega
  rcases findI_cases l id with ⟨h1, _⟩ | ⟨i, r, h1, h2, h3, _⟩
  · omega
  · exact ⟨i, r, h1, h2, h3⟩
theorem stepS_t {day pa le : Int} {l : List R5} {k id v : Int} {i : Nat} {r : R5} (hk : k = 3 ∨ k = 4 ∨ k = 5 ∨ k = 6) (hf : findI l id = i) (hr : l[i]? = some r) :
    stepS day pa le l k id v = ((teach day pa le l i r k v).map fun q => (day, q.1, q.2.1, q.2.2)).filter fun q => schB q.1 q.2.1 q.2.2.1 q.2.2.2 := by
  unfold stepS tryS
  rw [if_neg (by omega), if_neg (by omega), if_pos hk, hf, if_neg (by omega)]
  simp only [Int.toNat_natCast, hr]
theorem find_none {l : List R5} {k id v day pa le : Int} (hk : k = 3 ∨ k = 4 ∨ k = 5 ∨ k = 6) (hf : findI l id = -1) : stepS day pa le l k id v = none := by
  unfold stepS tryS
  rw [if_neg (by omega), if_neg (by omega), if_pos hk, hf, if_pos (by omega)]
  rfl
abbrev Sch4 := Int × List R5 × Int × Int
/-- a school of the call's own comes back, and yes; or the empty one, and no -/
def RetSch (o : Option Sch4) (w : World) (e : Ending) (w' : World) : Prop :=
  match o with
  | none => e = .returned (.tuple #[schV 0 none 0 0 0 0, .bool false]) ∧ Below w.heap.size w w'
  | some (d, l, p, q) => ∃ A c, e = .returned (.tuple #[schV d A l.length c p q, .bool true]) ∧ w'.ownsRow w.heap.size 109 5 (.slice A l.length c) l.length (rowsV l) ∧ Below w.heap.size w w'
/-- the reference's: some school of the call's own, and yes or no -/
def RetMake (o : Option Sch4) (w : World) (e : Ending) (w' : World) : Prop :=
  ∃ (A : Option Addr) (c : Nat) (d p q : Int) (l : List R5), e = .returned (.tuple #[schV d A l.length c p q, .bool o.isSome]) ∧ w'.ownsRow w.heap.size 109 5 (.slice A l.length c) l.length (rowsV l) ∧
    (∀ x, o = some x → x = (d, l, p, q)) ∧ Below w.heap.size w w'
end Go.Proofs.Ytclihlihaigddaa
