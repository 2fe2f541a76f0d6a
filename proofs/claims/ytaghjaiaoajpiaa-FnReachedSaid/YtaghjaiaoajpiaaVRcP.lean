/- The numbers that a frame reaches, plainly: both searches give the same ascending list. -/
import Derived.Test.YtaghjaiaoajpiaaVM8
namespace Go.Proofs.Ytaghjaiaoajpiaa
open Go.RowKit
set_option linter.unusedVariables false
set_option linter.unusedSimpArgs false
/-- a number put into an ascending list -/
def insN : List Int → Int → List Int
 | [], n => [n]
 | a :: l, n => if a < n then a :: insN l n else if a = n then a :: l else n :: a :: l
def insA (xs es : List Int) : List Int := es.foldl insN xs
def Asc (l : List Int) : Prop := l.Pairwise (· < ·)
theorem insN_mem (l : List Int) (n x : Int) : x ∈ insN l n ↔ x = n ∨ x ∈ l := by
 induction l with
 | nil => simp [insN]
 | cons a l ih =>
   unfold insN
   split
   · simp only [List.mem_cons, ih]
     constructor
     · rintro (h | h | h)
       · exact .inr (.inl h)
       · exact .inl h
       · exact .inr (.inr h)
     · rintro (h | h | h)
       · exact .inr (.inl h)
       · exact .inl h
       · exact .inr (.inr h)
   · split
     · rename_i h
       subst h
       simp
     · simp
theorem insN_asc (l : List Int) (n : Int) (h : Asc l) : Asc (insN l n) := by
 induction l with
 | nil => exact List.pairwise_singleton _ _
 | cons a l ih =>
   obtain ⟨h1, h2⟩ := List.pairwise_cons.1 h
   unfold insN
   split
   · refine List.pairwise_cons.2 ⟨fun x hx => ?_, ih h2⟩
     rcases (insN_mem l n x).1 hx with rfl | hx
     · assumption
     · exact h1 x hx
   · split
     · exact h
     · refine List.pairwise_cons.2 ⟨fun x hx => ?_, h⟩
       rcases List.mem_cons.1 hx with rfl | hx
       · omega
       · have := h1 x hx; omega
theorem insA_mem (es : List Int) : ∀ (xs : List Int) (x : Int), x ∈ insA xs es ↔ x ∈ xs ∨ x ∈ es := by
 induction es with
 | nil => intro xs x; simp [insA]
 | cons e es ih =>
   intro xs x
   have := ih (insN xs e) x
   unfold insA at this ⊢
   rw [List.foldl_cons, this, insN_mem, List.mem_cons]
   constructor
   · rintro ((h | h) | h)
     · exact .inr (.inl h)
     · exact .inl h
     · exact .inr (.inr h)
   · rintro (h | h | h)
     · exact .inl (.inr h)
     · exact .inl (.inl h)
     · exact .inr h
theorem insA_asc (es : List Int) : ∀ (xs : List Int), Asc xs → Asc (insA xs es) := by
 induction es with
 | nil => intro xs h; exact h
 | cons e es ih => intro xs h; exact ih _ (insN_asc _ _ h)
theorem insA_app (xs es fs : List Int) : insA xs (es ++ fs) = insA (insA xs es) fs := by unfold insA; rw [List.foldl_append]
theorem insN_len (l : List Int) (n : Int) : (insN l n).length ≤ l.length + 1 := by
 induction l with
 | nil => exact Nat.le_refl _
 | cons a l ih =>
   unfold insN
   split
   · simp only [List.length_cons]; omega
   · split <;> simp only [List.length_cons] <;> omega
theorem insA_len (es : List Int) : ∀ (xs : List Int), (insA xs es).length ≤ xs.length + es.length := by
 induction es with
 | nil => intro xs; exact Nat.le_refl _
 | cons e es ih =>
   intro xs
   have h1 := ih (insN xs e)
   have h2 := insN_len xs e
   unfold insA at h1 ⊢
   rw [List.foldl_cons, List.length_cons]
   omega
/-- the same members, both ascending: the same list -/
theorem asc_eq : ∀ (l k : List Int), Asc l → Asc k → (∀ x, x ∈ l ↔ x ∈ k) → l = k := by
 intro l
 induction l with
 | nil =>
   intro k _ _ h
   cases k with
   | nil => rfl
   | cons y ys => exact absurd ((h y).2 (List.mem_cons_self ..)) (by simp)
 | cons a l ih =>
   intro k hl hk h
   cases k with
   | nil => exact absurd ((h a).1 (List.mem_cons_self ..)) (by simp)
   | cons b k =>
     obtain ⟨l1, l2⟩ := List.pairwise_cons.1 hl
     obtain ⟨k1, k2⟩ := List.pairwise_cons.1 hk
     have hab : a = b := by
      rcases List.mem_cons.1 ((h a).1 (List.mem_cons_self ..)) with e | e
      · exact e
      · rcases List.mem_cons.1 ((h b).2 (List.mem_cons_self ..)) with e2 | e2
        · exact e2.symm
        · have := k1 a e; have := l1 b e2; omega
     subst hab
     rw [ih k l2 k2 fun x => ?_]
     have hx := h x
     rw [List.mem_cons, List.mem_cons] at hx
     constructor
     · intro hm
       rcases hx.1 (.inr hm) with e | e
       · subst e; have := l1 x hm; omega
       · exact e
     · intro hm
       rcases hx.2 (.inr hm) with e | e
       · subst e; have := k1 x hm; omega
       · exact e
/-- found from the left -/
theorem insN_at {l : List Int} {n : Int} : ∀ (k : Nat), k ≤ l.length → (∀ i v, i < k → l[i]? = some v → v < n) → (∀ v, l[k]? = some v → n ≤ v) → insN l n = if l[k]? = some n then l else l.take k ++ n :: l.drop k := by
 induction l with
 | nil =>
   intro k hk _ _
   obtain rfl : k = 0 := by simpa using hk
   rfl
 | cons a l ih =>
   intro k hk h1 h2
   cases k with
   | zero =>
     have := h2 a rfl
     unfold insN
     rw [if_neg (by omega)]
     simp only [List.getElem?_cons_zero, Option.some.injEq, List.take_zero, List.drop_zero, List.nil_append]
   | succ k =>
     have := h1 0 a (by omega) rfl
     unfold insN
     rw [if_pos this, ih k (by simpa using hk) (fun i v hi hv => h1 (i + 1) v (by omega) (by simpa using hv)) (fun v hv => h2 v (by simpa using hv))]
     simp only [List.getElem?_cons_succ, List.take_succ_cons, List.drop_succ_cons, List.cons_append]
     split <;> rfl
theorem asc_get {l : List Int} (h : Asc l) {i j : Nat} {x y : Int} (hx : l[i]? = some x) (hy : l[j]? = some y) (hij : i < j) : x < y := by
 obtain ⟨hi, rfl⟩ := List.getElem?_eq_some_iff.1 hx
 obtain ⟨hj, rfl⟩ := List.getElem?_eq_some_iff.1 hy
 exact List.pairwise_iff_getElem.1 h i j hi hj hij
theorem insN_have {l : List Int} {n : Int} (h : Asc l) (hm : n ∈ l) : insN l n = l := by
 obtain ⟨k, hk⟩ := List.getElem?_of_mem hm
 obtain ⟨hk1, _⟩ := List.getElem?_eq_some_iff.1 hk
 rw [insN_at k (by omega) (fun i v hi hv => asc_get h hv hk hi) (fun v hv => by rw [hk] at hv; cases hv; exact Int.le_refl _), if_pos hk]
/-- found from the right -/
theorem insN_right {l : List Int} {n : Int} (h : Asc l) (k : Nat) (hk : k ≤ l.length) (h1 : ∀ i v, k ≤ i → l[i]? = some v → n < v) (h2 : ∀ j v, k = j + 1 → l[j]? = some v → v < n) : insN l n = l.take k ++ n :: l.drop k := by
 rw [insN_at k hk ?_ ?_, if_neg ?_]
 · intro e; have := h1 k n (Nat.le_refl _) e; omega
 · intro i v hi hv
   cases k with
   | zero => omega
   | succ j =>
     rcases Nat.lt_or_ge i j with hij | hij
     · obtain ⟨y, hy⟩ : ∃ y, l[j]? = some y := ⟨l[j], List.getElem?_eq_getElem (by omega)⟩
       have := asc_get h hv hy hij
       have := h2 j y rfl hy
       omega
     · obtain rfl : i = j := by omega
       exact h2 i v rfl hv
 · intro v hv; have := h1 k v (Nat.le_refl _) hv; omega
-- the parts that differ
def pts (r : R2) (x y : Int) : Int := (if r.a = x then 0 else 1) + (if r.b = y then 0 else 1)
theorem pts_ge (r : R2) (x y : Int) : 0 ≤ pts r x y := by unfold pts; split <;> split <;> omega
theorem mvR_pts (k : Int) (r s : R2) : ((mvR k r s).length : Int) = pts r s.a s.b := by
 unfold mvR pts
 by_cases h1 : r.a = s.a
 · by_cases h2 : r.b = s.b
   · rw [if_pos (by omega), if_pos (by omega), if_pos h1, if_pos h2]; rfl
   · rw [if_pos (by omega), if_neg (by omega), if_pos h1, if_neg h2]; rfl
 · by_cases h2 : r.b = s.b
   · rw [if_neg (by omega), if_pos (by omega), if_neg h1, if_pos h2]; rfl
   · rw [if_neg (by omega), if_neg (by omega), if_neg h1, if_neg h2]; rfl
theorem btw_cons (r s : R2) (l t : List R2) : ∀ k, ((btw (r :: l) (s :: t) (k + 1)).length : Int) = pts r s.a s.b + ((btw l t k).length : Int) := by
 intro k
 induction k with
 | zero =>
   show ((btw (r :: l) (s :: t) 0 ++ mvR ((0 : Nat) : Int) r s).length : Int) = pts r s.a s.b + (([] : List R3).length : Int)
   rw [List.length_append, Int.natCast_add, mvR_pts]
   simp [btw]
 | succ k ih =>
   rw [btw, List.length_append, Int.natCast_add, ih, mvR_pts]
   rw [btw, List.length_append, Int.natCast_add, mvR_pts, List.getD_cons_succ, List.getD_cons_succ]
   omega
/-- a frame that is reached with at most m changed parts -/
def okT (u lo : Int) : List R2 → List R2 → Int → Prop
 | [], t, _ => t = []
 | r :: rs, t, m => ∃ s t', t = s :: t' ∧ (0 ≤ s.a ∧ s.a ≤ u ∧ 0 ≤ s.b ∧ s.b ≤ lo) ∧ 0 ≤ m - pts r s.a s.b ∧ okT u lo rs t' (m - pts r s.a s.b)
theorem okT_iff (u lo : Int) : ∀ (l t : List R2) (m : Int), 0 ≤ m → (okT u lo l t m ↔ t.length = l.length ∧ (∀ y ∈ t, 0 ≤ y.a ∧ y.a ≤ u ∧ 0 ≤ y.b ∧ y.b ≤ lo) ∧ ((btw l t l.length).length : Int) ≤ m) := by
 intro l
 induction l with
 | nil =>
   intro t m hm
   unfold okT
   constructor
   · rintro rfl
     exact ⟨rfl, fun y hy => by simp at hy, by simpa [btw] using hm⟩
   · rintro ⟨h, _⟩
     exact List.eq_nil_of_length_eq_zero h
 | cons r l ih =>
   intro t m hm
   unfold okT
   constructor
   · rintro ⟨s, t', rfl, hs, hm', hk⟩
     obtain ⟨e1, e2, e3⟩ := (ih t' _ hm').1 hk
     refine ⟨by simp [e1], fun y hy => ?_, ?_⟩
     · rcases List.mem_cons.1 hy with rfl | hy
       · exact hs
       · exact e2 y hy
     · rw [List.length_cons, btw_cons]; omega
   · rintro ⟨e1, e2, e3⟩
     cases t with
     | nil => cases e1
     | cons s t =>
       rw [List.length_cons, btw_cons] at e3
       refine ⟨s, t, rfl, e2 s (List.mem_cons_self ..), by omega, (ih t _ (by omega)).2 ⟨by simpa using e1, fun y hy => e2 y (List.mem_cons_of_mem _ hy), by omega⟩⟩
theorem okT_self {u lo : Int} : ∀ (l : List R2) (m : Int), (∀ y ∈ l, 0 ≤ y.a ∧ y.a ≤ u ∧ 0 ≤ y.b ∧ y.b ≤ lo) → 0 ≤ m → okT u lo l l m := by
 intro l
 induction l with
 | nil => intro m _ _; rfl
 | cons r l ih =>
   intro m h hm
   have e : pts r r.a r.b = 0 := by unfold pts; rw [if_pos rfl, if_pos rfl]; rfl
   exact ⟨r, l, rfl, h r (List.mem_cons_self ..), by rw [e]; omega, by rw [e]; exact ih _ (fun y hy => h y (List.mem_cons_of_mem _ hy)) (by omega)⟩
theorem numR_cons (r : R2) (l : List R2) : numR (r :: l) = (5 * r.a + r.b) * pw l.length + numR l := by
 unfold numR
 rw [show dsOf (r :: l) = (5 * r.a + r.b) :: dsOf l from rfl, numD_cons]
 rw [show (dsOf l).length = l.length by unfold dsOf; rw [List.length_map]]
-- the reference's search
def rSl (P x m : Int) (rs : Int → List Int) (r : R2) (y : Nat) : List Int := if m - pts r x y < 0 then [] else (rs (m - pts r x y)).map fun z => P * (5 * x + y) + z
def rSx (P : Int) (lo : Int) (m : Int) (rs : Int → List Int) (r : R2) (x : Nat) : List Int := (List.range (lo + 1).toNat).flatMap (rSl P x m rs r)
def rS (u lo : Int) : List R2 → Int → List Int
 | [], _ => [0]
 | r :: rs, m => insA [] ((List.range (u + 1).toNat).flatMap (rSx (pw rs.length) lo m (rS u lo rs) r))
theorem rS_mem (u lo : Int) : ∀ (l : List R2) (m x : Int), (x ∈ rS u lo l m ↔ ∃ t, okT u lo l t m ∧ x = numR t) := by
 intro l
 induction l with
 | nil =>
   intro m x
   unfold rS okT
   constructor
   · intro h
     exact ⟨[], rfl, List.mem_singleton.1 h⟩
   · rintro ⟨t, rfl, rfl⟩
     exact List.mem_singleton.2 rfl
 | cons r l ih =>
   intro m x
   unfold rS
   rw [insA_mem]
   constructor
   · rintro (h | h)
     · cases h
     · obtain ⟨a, ha, h⟩ := List.mem_flatMap.1 h
       unfold rSx at h
       obtain ⟨b, hb, h⟩ := List.mem_flatMap.1 h
       rw [List.mem_range] at ha hb
       unfold rSl at h
       split at h
       · cases h
       · rename_i hm
         obtain ⟨z, hz, rfl⟩ := List.mem_map.1 h
         obtain ⟨t, ht, rfl⟩ := (ih _ z).1 hz
         have hlen : t.length = l.length := ((okT_iff u lo l t _ (by omega)).1 ht).1
         refine ⟨⟨a, b⟩ :: t, ⟨⟨a, b⟩, t, rfl, ⟨by show (0 : Int) ≤ (a : Int); omega, by show (a : Int) ≤ u; omega, by show (0 : Int) ≤ (b : Int); omega, by show (b : Int) ≤ lo; omega⟩, by show 0 ≤ m - pts r a b; omega, ht⟩, ?_⟩
         rw [numR_cons, hlen, Int.mul_comm]
   · rintro ⟨t, ⟨s, t, rfl, hs, hm, ht⟩, rfl⟩
     right
     have ea : ((s.a.toNat : Nat) : Int) = s.a := by omega
     have eb : ((s.b.toNat : Nat) : Int) = s.b := by omega
     have hlen : t.length = l.length := ((okT_iff u lo l t _ hm).1 ht).1
     refine List.mem_flatMap.2 ⟨s.a.toNat, List.mem_range.2 (by omega), ?_⟩
     unfold rSx
     refine List.mem_flatMap.2 ⟨s.b.toNat, List.mem_range.2 (by omega), ?_⟩
     unfold rSl
     rw [ea, eb, if_neg (by omega)]
     refine List.mem_map.2 ⟨numR t, (ih _ _).2 ⟨t, ht, rfl⟩, ?_⟩
     rw [numR_cons, hlen, Int.mul_comm]
theorem rS_asc (u lo : Int) (l : List R2) (m : Int) : Asc (rS u lo l m) := by
 cases l with
 | nil => exact List.pairwise_singleton _ _
 | cons r l => exact insA_asc _ _ List.Pairwise.nil
-- the program's search
def partA (l : List R2) (a : Nat) : Int := if a % 2 = 0 then (l.getD (a / 2) ⟨0, 0⟩).a else (l.getD (a / 2) ⟨0, 0⟩).b
def setA (l : List R2) (a : Nat) (x : Int) : List R2 := if a % 2 = 0 then l.set (a / 2) ⟨x, (l.getD (a / 2) ⟨0, 0⟩).b⟩ else l.set (a / 2) ⟨(l.getD (a / 2) ⟨0, 0⟩).a, x⟩
theorem setA_len (l : List R2) (a : Nat) (x : Int) : (setA l a x).length = l.length := by unfold setA; split <;> rw [List.length_set]
def mostA (u lo : Int) (a : Nat) : Int := if a % 2 = 0 then u else lo
def leftA (l : List R2) (a : Nat) (m : Int) (x : Int) : Int := if x = partA l a then m else m - 1
def rIx (rec : List R2 → Int → List Int) (l : List R2) (a : Nat) (m : Int) (x : Nat) : List Int := if leftA l a m x < 0 then [] else rec (setA l a x) (leftA l a m x)
def rI (u lo : Int) : Nat → List R2 → Nat → Int → List Int
 | 0, l, _, _ => [numR l]
 | j + 1, l, a, m => (List.range (mostA u lo a + 1).toNat).flatMap (rIx (fun k m' => rI u lo j k (a + 1) m') l a m)
theorem rI_mem {u lo : Int} : ∀ (rs pre : List R2) (m x : Int), 0 ≤ m → (x ∈ rI u lo (2 * rs.length) (pre ++ rs) (2 * pre.length) m ↔ ∃ t, okT u lo rs t m ∧ x = numR (pre ++ t)) := by
 intro rs
 induction rs with
 | nil =>
   intro pre m x hm
   show x ∈ [numR (pre ++ [])] ↔ _
   unfold okT
   constructor
   · intro h
     exact ⟨[], rfl, by simpa using h⟩
   · rintro ⟨t, rfl, rfl⟩
     exact List.mem_singleton.2 rfl
 | cons r rs ih =>
   intro pre m x hm
   have eg : ∀ (s : R2), (pre ++ s :: rs).getD ((2 * pre.length) / 2) ⟨0, 0⟩ = s := fun s => by
    rw [show 2 * pre.length / 2 = pre.length by omega, List.getD_eq_getElem?_getD, List.getElem?_append_right (Nat.le_refl _)]; simp
   have es : ∀ (s q : R2), (pre ++ s :: rs).set ((2 * pre.length) / 2) q = pre ++ q :: rs := fun s q => by
    rw [show 2 * pre.length / 2 = pre.length by omega, List.set_append_right _ _ (Nat.le_refl _)]; simp
   have eg1 : ∀ (s : R2), (pre ++ s :: rs).getD ((2 * pre.length + 1) / 2) ⟨0, 0⟩ = s := fun s => by
    rw [show (2 * pre.length + 1) / 2 = 2 * pre.length / 2 by omega]; exact eg s
   have es1 : ∀ (s q : R2), (pre ++ s :: rs).set ((2 * pre.length + 1) / 2) q = pre ++ q :: rs := fun s q => by
    rw [show (2 * pre.length + 1) / 2 = 2 * pre.length / 2 by omega]; exact es s q
   have p0 : ∀ (s : R2), partA (pre ++ s :: rs) (2 * pre.length) = s.a := fun s => by unfold partA; rw [if_pos (by omega), eg]
   have p1 : ∀ (s : R2), partA (pre ++ s :: rs) (2 * pre.length + 1) = s.b := fun s => by unfold partA; rw [if_neg (by omega), eg1]
   have s0 : ∀ (s : R2) (v : Int), setA (pre ++ s :: rs) (2 * pre.length) v = pre ++ ⟨v, s.b⟩ :: rs := fun s v => by unfold setA; rw [if_pos (by omega), eg, es]
   have s1 : ∀ (s : R2) (v : Int), setA (pre ++ s :: rs) (2 * pre.length + 1) v = pre ++ ⟨s.a, v⟩ :: rs := fun s v => by unfold setA; rw [if_neg (by omega), eg1, es1]
   have m0 : mostA u lo (2 * pre.length) = u := by unfold mostA; rw [if_pos (by omega)]
   have m1 : mostA u lo (2 * pre.length + 1) = lo := by unfold mostA; rw [if_neg (by omega)]
   have key : ∀ (q : R2) (m' : Int), 0 ≤ m' → (x ∈ rI u lo (2 * rs.length) (pre ++ q :: rs) (2 * pre.length + 1 + 1) m' ↔ ∃ t, okT u lo rs t m' ∧ x = numR (pre ++ q :: t)) := fun q m' h => by
    have := ih (pre ++ [q]) m' x h
    rw [show 2 * (pre ++ [q]).length = 2 * pre.length + 1 + 1 by simp; omega] at this
    simpa using this
   rw [show 2 * (r :: rs).length = 2 * rs.length + 1 + 1 by simp; omega]
   rw [rI, m0]
   simp only [rI, m1]
   constructor
   · intro h
     obtain ⟨a, ha, h⟩ := List.mem_flatMap.1 h
     rw [List.mem_range] at ha
     unfold rIx at h
     rw [s0] at h
     split at h
     · cases h
     · rename_i hm1
       obtain ⟨b, hb, h⟩ := List.mem_flatMap.1 h
       rw [List.mem_range] at hb
       rw [s1] at h
       split at h
       · cases h
       · rename_i hm2
         obtain ⟨t, ht, rfl⟩ := (key _ _ (by omega)).1 h
         have e : leftA (pre ++ ⟨(a : Int), r.b⟩ :: rs) (2 * pre.length + 1) (leftA (pre ++ r :: rs) (2 * pre.length) m a) b = m - pts r a b := by
          unfold leftA pts
          rw [p0, p1]
          by_cases e1 : (a : Int) = r.a
          · by_cases e2 : (b : Int) = r.b
            · rw [if_pos e2, if_pos e1, if_pos e1.symm, if_pos e2.symm]; omega
            · rw [if_neg e2, if_pos e1, if_pos e1.symm, if_neg (fun h => e2 h.symm)]; omega
          · by_cases e2 : (b : Int) = r.b
            · rw [if_pos e2, if_neg e1, if_neg (fun h => e1 h.symm), if_pos e2.symm]; omega
            · rw [if_neg e2, if_neg e1, if_neg (fun h => e1 h.symm), if_neg (fun h => e2 h.symm)]; omega
         rw [e] at ht hm2
         exact ⟨⟨a, b⟩ :: t, ⟨⟨a, b⟩, t, rfl, ⟨by show (0 : Int) ≤ (a : Int); omega, by show (a : Int) ≤ u; omega, by show (0 : Int) ≤ (b : Int); omega, by show (b : Int) ≤ lo; omega⟩, by show 0 ≤ m - pts r a b; omega, ht⟩, rfl⟩
   · rintro ⟨t, ⟨s, t, rfl, hs, hm', ht⟩, rfl⟩
     have ea : ((s.a.toNat : Nat) : Int) = s.a := by omega
     have eb : ((s.b.toNat : Nat) : Int) = s.b := by omega
     have e : leftA (pre ++ ⟨s.a, r.b⟩ :: rs) (2 * pre.length + 1) (leftA (pre ++ r :: rs) (2 * pre.length) m s.a) s.b = m - pts r s.a s.b := by
      unfold leftA pts
      rw [p0, p1]
      by_cases e1 : s.a = r.a
      · by_cases e2 : s.b = r.b
        · rw [if_pos e2, if_pos e1, if_pos e1.symm, if_pos e2.symm]; omega
        · rw [if_neg e2, if_pos e1, if_pos e1.symm, if_neg (fun h => e2 h.symm)]; omega
      · by_cases e2 : s.b = r.b
        · rw [if_pos e2, if_neg e1, if_neg (fun h => e1 h.symm), if_pos e2.symm]; omega
        · rw [if_neg e2, if_neg e1, if_neg (fun h => e1 h.symm), if_neg (fun h => e2 h.symm)]; omega
     have hle : m - pts r s.a s.b ≤ leftA (pre ++ r :: rs) (2 * pre.length) m s.a := by
      rw [← e]
      unfold leftA
      split <;> omega
     refine List.mem_flatMap.2 ⟨s.a.toNat, List.mem_range.2 (by omega), ?_⟩
     unfold rIx
     rw [ea, s0, if_neg (by omega)]
     refine List.mem_flatMap.2 ⟨s.b.toNat, List.mem_range.2 (by omega), ?_⟩
     rw [eb, s1, e, if_neg (by omega)]
     exact (key _ _ hm').2 ⟨t, ht, rfl⟩
/-- both searches tell the same list -/
theorem rI_rS (u lo : Int) (l : List R2) (m : Int) (hm : 0 ≤ m) : insA [] (rI u lo (2 * l.length) l 0 m) = rS u lo l m := by
 refine asc_eq _ _ (insA_asc _ _ List.Pairwise.nil) (rS_asc u lo l m) fun x => ?_
 have h1 := rI_mem (u := u) (lo := lo) l [] m x hm
 have h2 := rS_mem u lo l m x
 rw [insA_mem, h2]
 constructor
 · rintro (h | h)
   · cases h
   · exact h1.1 h
 · intro h
   exact .inr (h1.2 h)
end Go.Proofs.Ytaghjaiaoajpiaa
