
/- Terms' rows, plainly: what the laws FnTerms and FnHonors ask of them. -/
import Derived.Test.YtkgeiemelhkkcaaRise
import Derived.Test.YtkgeiemelhkkcaaHonor
import Derived.Test.YtkgeiemelhkkcaaReport
import Derived.Test.YtkgeiemelhkkcaaJoin
import Derived.Test.YtkgeiemelhkkcaaBytes
namespace Go.Proofs.Ytkgeiemelhkkcaa
open Go.RowKit
set_option linter.unusedVariables false
set_option linter.unusedSimpArgs false
theorem are_at {l : List R5} (h : areB l = true) {k : Nat} (hk : k < l.length) : okAt l k = true := by
  simp only [areB, Bool.and_eq_true] at h
  have h2 := h.2
  rw [okTo, List.all_eq_true] at h2
  exact h2 k (by simpa using hk)
theorem are_asc1 {l : List R5} (h : areB l = true) {k : Nat} {r s : R5} (hr : l[k + 1]? = some r) (hs : l[k]? = some s) : s.a < r.a := by
  have h1 := are_at h (List.getElem?_eq_some_iff.1 hr).1
  rw [okAt_pos hr (are_all h hr) (by omega) (by simpa using hs)] at h1
  simpa using h1
theorem are_asc {l : List R5} (h : areB l = true) : ∀ (d k : Nat) (r s : R5), l[k]? = some s → l[k + d + 1]? = some r → s.a < r.a := by
  intro d
  induction d with
  | zero => intro k r s hs hr; exact are_asc1 h hr hs
  | succ d ih =>
    intro k r s hs hr
    obtain ⟨q, hq⟩ := list_split (l := l) (k := k + d + 1) (by have := (List.getElem?_eq_some_iff.1 hr).1; omega)
    have h1 := ih k q s hs hq
    have h2 := are_asc1 h (k := k + d + 1) hr hq
    omega
theorem are_lt {l : List R5} (h : areB l = true) {i k : Nat} {r s : R5} (hs : l[i]? = some s) (hr : l[k]? = some r) (hik : i < k) : s.a < r.a := by
  obtain ⟨d, rfl⟩ : ∃ d, k = i + d + 1 := ⟨k - i - 1, by omega⟩
  exact are_asc h d i r s hs hr
theorem are_inj {l : List R5} (h : areB l = true) {i k : Nat} {r s : R5} (hs : l[i]? = some s) (hr : l[k]? = some r) (e : s.a = r.a) : i = k := by
  rcases Nat.lt_trichotomy i k with hlt | rfl | hlt
  · have := are_lt h hs hr hlt; omega
  · rfl
  · have := are_lt h hr hs hlt; omega
theorem cross {a b c d e f : Int} (hb : 0 < b) (hd : 0 ≤ d) (hf : 0 ≤ f) (h1 : c * b ≤ a * d) (h2 : a * f ≤ e * b) : c * f ≤ e * d := by
  have h3 : (c * b) * f ≤ (a * d) * f := Int.mul_le_mul_of_nonneg_right h1 hf
  have h4 : (a * f) * d ≤ (e * b) * d := Int.mul_le_mul_of_nonneg_right h2 hd
  have e1 : (c * b) * f = (c * f) * b := by rw [Int.mul_assoc, Int.mul_comm b f, ← Int.mul_assoc]
  have e2 : (a * d) * f = (a * f) * d := by rw [Int.mul_assoc, Int.mul_comm d f, ← Int.mul_assoc]
  have e3 : (e * b) * d = (e * d) * b := by rw [Int.mul_assoc, Int.mul_comm b d, ← Int.mul_assoc]
  exact Int.le_of_mul_le_mul_right (by omega : (c * f) * b ≤ (e * d) * b) hb
theorem best_inv {l : List R5} (h : areB l = true) : ∀ k, k ≤ l.length → (bestTo l k = -1 ∧ ∀ i r, i < k → l[i]? = some r → r.c = 0) ∨
    ∃ (j : Nat) (s : R5), bestTo l k = (j : Int) ∧ l[j]? = some s ∧ j < k ∧ 0 < s.c ∧ ∀ i r, i < k → l[i]? = some r → r.d * s.c ≤ s.d * r.c := by
  intro k
  induction k with
  | zero => intro _; exact .inl ⟨rfl, fun i r hi => absurd hi (by omega)⟩
  | succ k ih =>
    intro hk
    obtain ⟨r, hr⟩ := list_split (l := l) (k := k) (by omega)
    obtain ⟨_, _, ⟨c0, _⟩, ⟨d0, d1⟩, _⟩ := row_bounds (are_all h hr)
    rw [bestTo_succ']
    rcases ih (by omega) with ⟨hz, hall⟩ | ⟨j, s, hz, hs, hj, hsc, hall⟩
    · rw [hz]
      by_cases hC : 0 < r.c
      · refine .inr ⟨k, r, bestStep_first hr hC, hr, by omega, hC, fun i x hi hx => ?_⟩
        by_cases e : i = k
        · subst e; rw [hr] at hx; injection hx with hx; subst hx; exact Int.le_refl _
        · have h0 := hall i x (by omega) hx
          obtain ⟨_, _, _, ⟨e0, e1⟩, _⟩ := row_bounds (are_all h hx)
          have h1 : x.d = 0 := by omega
          rw [h0, h1]; simp
      · refine .inl ⟨bestStep_none hr hC, fun i x hi hx => ?_⟩
        by_cases e : i = k
        · subst e; rw [hr] at hx; injection hx with hx; subst hx; omega
        · exact hall i x (by omega) hx
    · rw [hz]
      obtain ⟨_, _, ⟨sc0, _⟩, ⟨sd0, sd1⟩, _⟩ := row_bounds (are_all h hs)
      by_cases hcmp : s.d * r.c < r.d * s.c
      · have hC : 0 < r.c := by
          rcases Int.lt_or_eq_of_le c0 with hh | hh
          · exact hh
          · have : r.d = 0 := by omega
            rw [← hh, this] at hcmp
            simp at hcmp
        refine .inr ⟨k, r, bestStep_more hr hC hs hcmp, hr, by omega, hC, fun i x hi hx => ?_⟩
        by_cases e : i = k
        · subst e; rw [hr] at hx; injection hx with hx; subst hx; exact Int.le_refl _
        · have h1 := hall i x (by omega) hx
          obtain ⟨_, _, ⟨xc0, _⟩, _, _⟩ := row_bounds (are_all h hx)
          exact cross hsc xc0 c0 h1 (Int.le_of_lt hcmp)
      · refine .inr ⟨j, s, bestStep_less hr hs hcmp, hs, by omega, hsc, fun i x hi hx => ?_⟩
        by_cases e : i = k
        · subst e; rw [hr] at hx; injection hx with hx; subst hx; omega
        · exact hall i x (by omega) hx
theorem best_law {l : List R5} (hok : bestOk l = true) : ∀ (i k : Nat) (x y : R5), l[i]? = some x → l[k]? = some y → x.a = bestT l → ¬ (x.d * y.c < y.d * x.c) := by
  intro i k x y hx hy he
  simp only [bestOk, Bool.and_eq_true, decide_eq_true_eq] at hok
  obtain ⟨hg, h0⟩ := hok
  rcases best_inv hg l.length (Nat.le_refl _) with ⟨hz, _⟩ | ⟨j, s, hz, hs, hj, hsc, hall⟩
  · omega
  · rw [(best_some hg hz hs).1] at he
    have := are_inj hg hx hs he
    subst this
    rw [hx] at hs; injection hs with hs; subst hs
    have := hall k y (List.getElem?_eq_some_iff.1 hy).1 hy
    omega
theorem best_are {l : List R5} (hok : bestOk l = true) : areB l = true := by
  simp only [bestOk, Bool.and_eq_true] at hok
  exact hok.1
theorem hon_sub {l : List R5} {p : Int} (h1 : honOk l p = true) (h2 : honOk l (p + 1) = true) : ∀ x ∈ honB l (p + 1), x ∈ honB l p := by
  intro x hx
  have hg : areB l = true := by simp only [honOk, Bool.and_eq_true] at h1; exact h1.1
  rw [honB, if_pos h2] at hx
  rw [honB, if_pos h1]
  unfold honTo at hx ⊢
  rw [List.take_length, List.mem_map] at hx ⊢
  obtain ⟨r, hr, rfl⟩ := hx
  rw [List.mem_filter] at hr
  refine ⟨r, List.mem_filter.2 ⟨hr.1, ?_⟩, rfl⟩
  have h3 := hr.2
  simp only [honR, Bool.and_eq_true, decide_eq_true_eq] at h3 ⊢
  refine ⟨h3.1, ?_⟩
  have := h3.2
  rw [Int.add_mul] at this
  omega
theorem honB_le (l : List R5) (p : Int) : (honB l p).length ≤ l.length := by
  unfold honB
  split
  · exact honTo_len l p l.length
  · simp
theorem rise_inv {l : List R5} : ∀ k, k + 1 ≤ l.length → ∃ f t s, riseTo l k = (f, t, s) ∧ f ≤ t ∧ t ≤ k ∧ s ≤ k ∧
    (∀ i x y, f ≤ i → i < t → l[i + 1]? = some x → l[i]? = some y → y.b < x.b) ∧ (∀ i x y, s ≤ i → i < k → l[i + 1]? = some x → l[i]? = some y → y.b < x.b) := by
  intro k
  induction k with
  | zero => intro _; exact ⟨0, 0, 0, rfl, by omega, by omega, by omega, fun i x y h1 h2 => absurd h2 (by omega), fun i x y h1 h2 => absurd h2 (by omega)⟩
  | succ k ih =>
    intro hk
    obtain ⟨f, t, s, e, h1, h2, h3, h4, h5⟩ := ih (by omega)
    obtain ⟨r, hr⟩ := list_split (l := l) (k := k + 1) (by omega)
    obtain ⟨q, hq⟩ := list_split (l := l) (k := k) (by omega)
    have hn := riseTo_succ hr hq e
    by_cases hC : r.b ≤ q.b
    · exact ⟨f, t, k + 1, hn.trans (rise_down hC h2 h1), h1, by omega, by omega, h4, fun i x y g1 g2 => absurd g2 (by omega)⟩
    · have hs2 : ∀ i x y, s ≤ i → i < k + 1 → l[i + 1]? = some x → l[i]? = some y → y.b < x.b := by
        intro i x y g1 g2 hx hy
        by_cases e2 : i = k
        · subst e2
          rw [hr] at hx; injection hx with hx; subst hx
          rw [hq] at hy; injection hy with hy; subst hy
          omega
        · exact h5 i x y g1 (by omega) hx hy
      by_cases hD : t - f < k + 1 - s
      · exact ⟨s, k + 1, s, hn.trans (rise_more hC hD), by omega, by omega, by omega, hs2, hs2⟩
      · exact ⟨f, t, s, hn.trans (rise_less hC hD), h1, by omega, by omega, h4, hs2⟩
theorem rise_facts {l : List R5} (hok : riseOk l = true) : ∃ f t x y, f ≤ t ∧ l[f]? = some x ∧ l[t]? = some y ∧ riseA l = x.a ∧ riseZ l = y.a ∧ (∀ i u v, f ≤ i → i < t → l[i + 1]? = some u → l[i]? = some v → v.b < u.b) := by
  have h2 := hok
  simp only [riseOk, Bool.and_eq_true, Bool.not_eq_true', List.isEmpty_eq_false_iff] at h2
  have hp : 0 < l.length := List.length_pos_iff.2 h2.2
  obtain ⟨f, t, s, e, h1, h3, _, h4, _⟩ := rise_inv (l := l) (l.length - 1) (by omega)
  obtain ⟨x, hx⟩ := list_split (l := l) (k := f) (by omega)
  obtain ⟨y, hy⟩ := list_split (l := l) (k := t) (by omega)
  obtain ⟨e1, e2⟩ := rise_end hok rfl e hx hy
  exact ⟨f, t, x, y, h1, hx, hy, e1, e2, h4⟩
theorem rise_are {l : List R5} (hok : riseOk l = true) : areB l = true := by
  simp only [riseOk, Bool.and_eq_true] at hok
  exact hok.1
theorem rise_le (l : List R5) : riseA l ≤ riseZ l := by
  rcases hok : riseOk l with _ | _
  · simp [riseA, riseZ, hok]
  · obtain ⟨f, t, x, y, h1, hx, hy, e1, e2, _⟩ := rise_facts hok
    rw [e1, e2]
    rcases Nat.lt_or_eq_of_le h1 with h | h
    · exact Int.le_of_lt (are_lt (rise_are hok) hx hy h)
    · subst h; rw [hx] at hy; injection hy with hy; subst hy; exact Int.le_refl _
theorem rise_law {l : List R5} (hok : riseOk l = true) : ∀ (i : Nat) (u v : R5), l[i + 1]? = some u → l[i]? = some v → riseA l < u.a → u.a ≤ riseZ l → ¬ (u.b ≤ v.b) := by
  intro i u v hu hv ha hz
  have hg := rise_are hok
  obtain ⟨f, t, x, y, h1, hx, hy, e1, e2, h4⟩ := rise_facts hok
  rw [e1] at ha
  rw [e2] at hz
  have hfi : f ≤ i := by
    apply Nat.le_of_lt_succ
    apply Nat.lt_of_not_le
    intro hle
    rcases Nat.lt_or_eq_of_le hle with h | h
    · have := are_lt hg hu hx h; omega
    · rw [← h, hu] at hx; injection hx with hx; subst hx; omega
  have hit : i < t := by
    apply Nat.lt_of_not_le
    intro hle
    have := are_lt hg hy hu (by omega)
    omega
  have := h4 i u v hfi hit hu hv
  omega
theorem pass_le {l : List R5} (h : areB l = true) : ∀ k, k ≤ l.length → passTo l k ≤ triedTo l k := by
  intro k
  induction k with
  | zero => intro _; simp [passTo, triedTo]
  | succ k ih =>
    intro hk
    obtain ⟨r, hr⟩ := list_split (l := l) (k := k) (by omega)
    obtain ⟨_, _, ⟨c0, _⟩, ⟨d0, d1⟩, _⟩ := row_bounds (are_all h hr)
    obtain ⟨e1, e2⟩ := sums_succ hr rfl rfl d0 c0
    have := ih (by omega)
    rw [e1, e2]
    omega
theorem share_le {l : List R5} : shareN l ≤ shareD l := by
  rcases hok : shareOk l with _ | _
  · simp [shareN, shareD, hok]
  · have h2 := hok
    simp only [shareOk, Bool.and_eq_true, decide_eq_true_eq] at h2
    have h3 := pass_le h2.1 l.length (Nat.le_refl _)
    have hg : 0 < Nat.gcd (passTo l l.length) (triedTo l l.length) := Nat.gcd_pos_of_pos_right _ h2.2
    obtain ⟨e1, e2, _⟩ := share_some h2.1 rfl rfl h2.2
    rw [e1, e2]
    exact Int.ediv_le_ediv (by omega) (by omega)
theorem grow_sum_to {l : List R5} {x : R5} (h0 : l[0]? = some x) : ∀ k y, l[k]? = some y → (growTo l (k + 1)).sum = y.b - x.b := by
  intro k
  induction k with
  | zero => intro y hy; rw [h0] at hy; injection hy with hy; subst hy; simp [growTo]
  | succ k ih =>
    intro y hy
    obtain ⟨q, hq⟩ := list_split (l := l) (k := k) (by have := (List.getElem?_eq_some_iff.1 hy).1; omega)
    rw [growTo_succ (by omega), List.sum_append, ih q hq]
    have : growAt l (k + 1) = y.b - q.b := by simp [growAt, hy, hq]
    rw [this]
    simp
    omega
theorem grow_sum {l : List R5} (h : areB l = true) {n : Nat} {x y : R5} (hn : l.length = n + 1) (h0 : l[0]? = some x) (h1 : l[n]? = some y) : (growB l).sum = y.b - x.b := by
  rw [growB, if_pos h, hn]
  exact grow_sum_to h0 n y h1
theorem grow_bounds (l : List R5) : ∀ z ∈ growB l, -999 ≤ z ∧ z ≤ 999 := by
  intro z hz
  unfold growB at hz
  split at hz
  · rename_i h
    unfold growTo at hz
    rw [List.mem_map] at hz
    obtain ⟨i, hi, rfl⟩ := hz
    rw [List.mem_range] at hi
    obtain ⟨r, hr⟩ := list_split (l := l) (k := i + 1) (by omega)
    obtain ⟨q, hq⟩ := list_split (l := l) (k := i) (by omega)
    have : growAt l (i + 1) = r.b - q.b := by simp [growAt, hr, hq]
    rw [this]
    have b1 := row_bounds (are_all h hr)
    have b2 := row_bounds (are_all h hq)
    omega
  · cases hz
theorem growB_le (l : List R5) : (growB l).length ≤ 9 := by
  unfold growB
  split
  · rename_i h
    have := are_len h
    rw [growTo_len]; omega
  · simp
/-- the lines of a report -/
def nl (s : ByteArray) : Nat := (bl s).count 10
theorem nl_append (a b : ByteArray) : nl (a ++ b) = nl a + nl b := by unfold nl; rw [bl_append, List.count_append]
theorem decF_nl : ∀ (f n : Nat), (decF f n).count 10 = 0 := by
  intro f
  induction f with
  | zero => intro n; rfl
  | succ f ih =>
    intro n
    have hd : ∀ m, m < 10 → ¬ (dig m == 10) = true := by
      intro m hm
      have := (by decide : ∀ m : Fin 10, ¬ (dig m.val == 10) = true) ⟨m, hm⟩
      exact this
    unfold decF
    split
    · rename_i h
      rw [List.count_cons, if_neg (hd n h)]; rfl
    · rw [List.count_append, ih, List.count_cons, if_neg (hd _ (Nat.mod_lt _ (by omega)))]; rfl
theorem dec_nl (n : Nat) : nl (dec n) = 0 := by
  unfold nl dec bl
  simpa using decF_nl 20 n
theorem decI_nl (z : Int) : nl (decI z) = 0 := by
  unfold decI
  split
  · rw [nl_append, dec_nl]; decide
  · exact dec_nl _
theorem severalB_nl (n : Int) (word : ByteArray) (hw : nl word = 0) : nl (severalB n word) = 0 := by
  unfold severalB
  split
  · rw [nl_append, hw]; decide
  · rw [nl_append, nl_append, nl_append, decI_nl, hw]; decide
theorem lineB_nl (r : R5) : nl (lineB r) = 0 := by
  have h1 : nl (line1 r) = 0 := by
    unfold line1
    rw [nl_append, nl_append, nl_append, decI_nl, severalB_nl r.b ⟨#[112, 117, 112, 105, 108]⟩ (by decide)]; decide
  have h2 : nl (line2 r) = 0 := by
    unfold line2
    split
    · simp only [nl_append, decI_nl, h1]; decide
    · exact h1
  unfold lineB
  split
  · simp only [nl_append, decI_nl, h2]; decide
  · exact h2
theorem repTo_nl (l : List R5) : ∀ k, k ≤ l.length → nl (repTo l k) = k := by
  intro k
  induction k with
  | zero => intro _; unfold repTo; rw [List.take_zero]; decide
  | succ k ih =>
    intro hk
    obtain ⟨r, hr⟩ := list_split (l := l) (k := k) (by omega)
    rw [repTo_succ hr rfl, nl_append, nl_append, lineB_nl, ih (by omega)]
    have : nl ⟨#[10]⟩ = 1 := by decide
    omega
theorem rep_nl {l : List R5} (h : areB l = true) : nl (repB l) = l.length := by
  rw [repB, if_pos h, nl_append, nl_append, nl_append, decI_nl, severalB_nl _ ⟨#[116, 101, 114, 109]⟩ (by decide), repTo_nl l _ (Nat.le_refl _)]
  have : nl ⟨#[32, 112, 97, 115, 115, 101, 100, 32, 105, 110, 32]⟩ = 0 := by decide
  omega
theorem repTo_size (l : List R5) : ∀ k, (repTo l k).size ≤ k * 161 := by
  intro k
  induction k with
  | zero => unfold repTo; rw [List.take_zero]; decide
  | succ k ih =>
    rcases hr : l[k]? with _ | r
    · have : repTo l (k + 1) = repTo l k := by unfold repTo; rw [List.take_add_one, hr]; simp
      rw [this]; omega
    · rw [repTo_succ hr rfl]
      have := lineB_size r
      simp only [ByteArray.size_append]
      have h1 : (⟨#[10]⟩ : ByteArray).size = 1 := rfl
      omega
theorem rep_size (l : List R5) : (repB l).size ≤ 2000 := by
  unfold repB
  split
  · rename_i h
    have h1 := are_len h
    have h2 := repTo_size l l.length
    have h3 := decI_size (passTo l l.length : Nat)
    have h4 := severalB_size (l.length : Nat) ⟨#[116, 101, 114, 109]⟩
    simp [lit_size] at h4
    simp only [ByteArray.size_append, lit_size]
    have h5 : (#[32, 112, 97, 115, 115, 101, 100, 32, 105, 110, 32] : Array UInt8).size = 11 := rfl
    omega
  · decide
/-- joining: the order of the schools does not matter -/
def ascR (l : List R5) : Prop := l.Pairwise fun r s => r.a < s.a
theorem asc_ext : ∀ (l m : List R5), ascR l → ascR m → (∀ x, x ∈ l ↔ x ∈ m) → l = m := by
  intro l
  induction l with
  | nil =>
    intro m _ _ h
    rcases m with _ | ⟨y, m⟩
    · rfl
    · exact absurd ((h y).2 (by simp)) (by simp)
  | cons x l ih =>
    intro m hl hm h
    rcases m with _ | ⟨y, m⟩
    · exact absurd ((h x).1 (by simp)) (by simp)
    · have hl' := List.pairwise_cons.1 hl
      have hm' := List.pairwise_cons.1 hm
      have hxy : x = y := by
        rcases List.mem_cons.1 ((h x).1 (by simp)) with e | e
        · exact e
        · rcases List.mem_cons.1 ((h y).2 (by simp)) with e2 | e2
          · exact e2.symm
          · have := hm'.1 x e
            have := hl'.1 y e2
            omega
      subst hxy
      rw [ih m hl'.2 hm'.2 fun z => ?_]
      constructor
      · intro hz
        rcases List.mem_cons.1 ((h z).1 (List.mem_cons_of_mem _ hz)) with e | e
        · subst e; have := hl'.1 z hz; omega
        · exact e
      · intro hz
        rcases List.mem_cons.1 ((h z).2 (List.mem_cons_of_mem _ hz)) with e | e
        · subst e; have := hm'.1 z hz; omega
        · exact e
theorem are_ascR {l : List R5} (h : areB l = true) : ascR l := by
  unfold ascR
  rw [List.pairwise_iff_getElem]
  intro i j hi hj hij
  exact are_lt h (List.getElem?_eq_getElem hi) (List.getElem?_eq_getElem hj) hij
theorem inTo_a {r : R5} {m : List R5} {j : Nat} {x : R5} (h : x ∈ inTo r m j) : x.a = r.a := by
  unfold inTo at h
  rw [List.mem_map] at h
  obtain ⟨s, _, rfl⟩ := h
  rfl
theorem join_asc {l m : List R5} (hl : areB l = true) (hm : areB m = true) : ascR (joinAll l m) := by
  unfold joinAll joinTo ascR
  rw [List.take_length, List.pairwise_flatMap]
  constructor
  · intro r _
    unfold inTo
    rw [List.take_length, List.pairwise_map]
    have h1 := (are_ascR hm).filter (fun s : R5 => decide (r.a = s.a))
    rw [List.pairwise_iff_getElem] at h1 ⊢
    intro i j hi hj hij
    have h2 := h1 i j hi hj hij
    have h3 := (List.mem_filter.1 (List.getElem_mem hi)).2
    have h4 := (List.mem_filter.1 (List.getElem_mem hj)).2
    simp only [decide_eq_true_eq] at h3 h4
    omega
  · refine (are_ascR hl).imp ?_
    intro r s hrs x hx y hy
    rw [inTo_a hx, inTo_a hy]
    exact hrs
theorem mem_join {l m : List R5} {x : R5} : x ∈ joinAll l m ↔ ∃ r ∈ l, ∃ s ∈ m, r.a = s.a ∧ x = joinRow r s := by
  unfold joinAll joinTo inTo
  rw [List.take_length, List.take_length, List.mem_flatMap]
  constructor
  · rintro ⟨r, hr, hx⟩
    rw [List.mem_map] at hx
    obtain ⟨s, hs, rfl⟩ := hx
    rw [List.mem_filter] at hs
    exact ⟨r, hr, s, hs.1, by simpa using hs.2, rfl⟩
  · rintro ⟨r, hr, s, hs, e, rfl⟩
    exact ⟨r, hr, List.mem_map.2 ⟨s, List.mem_filter.2 ⟨hs, by simpa using e⟩, rfl⟩⟩
theorem join_row_comm {r s : R5} (h : r.a = s.a) : joinRow r s = joinRow s r := by
  rw [R5.eq_iff]
  simp only [joinRow]
  omega
theorem join_comm (l m : List R5) : joinOk l m = joinOk m l ∧ joinB l m = joinB m l := by
  rcases hl : areB l with _ | _
  · have e1 : joinOk l m = false := by simp [joinOk, hl]
    have e2 : joinOk m l = false := by simp [joinOk, hl]
    exact ⟨e1.trans e2.symm, by simp [joinB, e1, e2]⟩
  rcases hm : areB m with _ | _
  · have e1 : joinOk l m = false := by simp [joinOk, hm]
    have e2 : joinOk m l = false := by simp [joinOk, hm]
    exact ⟨e1.trans e2.symm, by simp [joinB, e1, e2]⟩
  have e : joinAll l m = joinAll m l := by
    refine asc_ext _ _ (join_asc hl hm) (join_asc hm hl) fun x => ?_
    rw [mem_join, mem_join]
    constructor
    · rintro ⟨r, hr, s, hs, h, rfl⟩
      exact ⟨s, hs, r, hr, h.symm, join_row_comm h⟩
    · rintro ⟨r, hr, s, hs, h, rfl⟩
      exact ⟨s, hs, r, hr, h.symm, join_row_comm h⟩
  have e1 : joinOk l m = joinOk m l := by simp [joinOk, hl, hm, e]
  exact ⟨e1, by unfold joinB; rw [e1, e]⟩
theorem joinB_le {l m : List R5} : (joinB l m).length ≤ 10 := by
  unfold joinB
  split
  · rename_i h
    simp only [joinOk, Bool.and_eq_true] at h
    exact are_len h.2
  · simp
end Go.Proofs.Ytkgeiemelhkkcaa
