/- l13All: all targets as frames. -/
import Derived.Deep.CutBlock
import Derived.Test.YtaghjaiaoajpiaaVBsF
import Derived.Test.YtaghjaiaoajpiaaVM4
import Derived.Test.YtaghjaiaoajpiaaVFdC
namespace Go.Proofs.Ytaghjaiaoajpiaa
open Go.RowKit
set_option linter.unusedVariables false
set_option linter.unusedSimpArgs false
theorem info_frm : (Try.prog.info? 26).map (fun i => (i.zero, i.size, i.bytes)) = some (some (.agg #[.int .i64 0, .int .i64 0, .slice none 0 0]), 3, 40) := by kernel_rfl
theorem own_blk3 {w : World} {B x e : Nat} {a b c : Value} (h : Blk w x e #[a, b, c]) (hB : B ≤ x) : w.ownsRow B e 3 (.slice (some ⟨x, 0, none⟩) 1 1) 1 [a, b, c] :=
 ⟨by simp, .inr ⟨x, 1, #[a, b, c], rfl, hB, h, Nat.le_refl _, by unfold maxLen; omega, by simp, by simp⟩⟩
def frmsV (u lo : Int) (vals : List Value) : List Value := vals.flatMap fun v => [.int .i64 u, .int .i64 lo, v]
theorem frmsV_snoc (u lo : Int) (vals : List Value) (v : Value) : frmsV u lo (vals ++ [v]) = frmsV u lo vals ++ [.int .i64 u, .int .i64 lo, v] := by unfold frmsV; rw [List.flatMap_append]; rfl
/-- a row of frames: each of a kind, its rods a row of their own -/
def RetFrs (w : World) (u lo : Int) (r : Nat) (LL : List (List R2)) (e : Ending) (w' : World) : Prop := ∃ (A : Option Addr) (c : Nat) (vals : List Value), e = .returned (.slice A LL.length c) ∧ w'.ownsRow w.heap.size 26 3 (.slice A LL.length c) LL.length (frmsV u lo vals) ∧ Tgs w' w.heap.size r vals LL ∧ Below w.heap.size w w'
end Go.Proofs.Ytaghjaiaoajpiaa
namespace Go.Proofs.Ytaghjaiaoajpiaa
open Go.RowKit
set_option linter.unusedVariables false
set_option linter.unusedSimpArgs false
def wayT (l : List R2) (N : Nat) (t : List R2) : Way := ⟨t, (btw l t N).length, beads (btw l t N), true⟩
def minT (bt : Way → Way → Bool) (l : List R2) (N : Nat) (LL : List (List R2)) : Way := LL.foldl (fun s t => if bt (wayT l N t) s = true then wayT l N t else s) zeroW
theorem minT_take {bt : Way → Way → Bool} {l : List R2} {N : Nat} {LL : List (List R2)} {i : Nat} {t : List R2} (h : LL[i]? = some t) : minT bt l N (LL.take (i + 1)) = if bt (wayT l N t) (minT bt l N (LL.take i)) = true then wayT l N t else minT bt l N (LL.take i) := by
 unfold minT
 rw [List.take_add_one, h, List.foldl_append]
 rfl
def RetBest (w : World) (u lo : Int) (s : Way) (e : Ending) (w' : World) : Prop := ∃ (U L : Int) (A : Option Addr) (c : Nat), e = .returned (.tuple #[frV U L A s.l.length c, .bool s.ok]) ∧ (s.ok = true → U = u ∧ L = lo) ∧ (s.ok = false → U = 0 ∧ L = 0) ∧ w'.ownsRow w.heap.size 42 2 (.slice A s.l.length c) s.l.length (rowsV2 s.l) ∧ Below w.heap.size w w'
theorem tgs_fill {w : World} {B r g : Nat} {cs : Array Value} {vals : List Value} {LL : List (List R2)} {a b c : Value} (h : Tgs w B r vals LL) (hg : Blk w g 26 cs) : Tgs (((w.setCell ⟨g, 0, none⟩ a).setCell ⟨g, 1, none⟩ b).setCell ⟨g, 2, none⟩ c) B r vals LL :=
 ⟨h.1, fun i L hL => by obtain ⟨h1, A, c', h2, h3⟩ := h.2 i L hL; exact ⟨h1, A, c', h2, fill_own' h3 (own_nbT h3 hg (by decide))⟩⟩
theorem frmsV_get (u lo : Int) {vals : List Value} {v : Value} : ∀ {i : Nat}, vals[i]? = some v → (frmsV u lo vals)[i * 3]? = some (.int .i64 u) ∧ (frmsV u lo vals)[i * 3 + 1]? = some (.int .i64 lo) ∧ (frmsV u lo vals)[i * 3 + 2]? = some v := by
 induction vals with
 | nil => intro i h; cases h
 | cons a vals ih =>
   intro i h
   have e : frmsV u lo (a :: vals) = .int .i64 u :: .int .i64 lo :: a :: frmsV u lo vals := by unfold frmsV; rw [List.flatMap_cons]; rfl
   rw [e]
   cases i with
   | zero => injection h with h; subst h; exact ⟨rfl, rfl, rfl⟩
   | succ i =>
     have h9 := ih (i := i) h
     rw [show (i + 1) * 3 = i * 3 + 1 + 1 + 1 by omega]
     exact h9
theorem frB_mk {u lo : Int} {l t : List R2} (hf : frB u lo l = true) (hl : t.length = l.length) (hy : ∀ y ∈ t, 0 ≤ y.a ∧ y.a ≤ u ∧ 0 ≤ y.b ∧ y.b ≤ lo) : frB u lo t = true := by
 unfold frB at hf ⊢
 rw [hl]
 simp only [Bool.and_eq_true, List.all_eq_true] at hf ⊢
 refine ⟨hf.1, fun y hy' => ?_⟩
 have := hy y hy'
 unfold rodB
 simp only [Bool.and_eq_true, inB_iff, decide_eq_true_eq]
 omega
/-- what a way over all rods satisfies -/
def GoodB (N : Nat) (s : Way) : Prop := (s.ok = true → s.l.length = N) ∧ smallR s.l ∧ 0 ≤ s.m ∧ s.m ≤ 16 ∧ 0 ≤ s.b ∧ s.b ≤ 16000
theorem GoodB.zero (N : Nat) : GoodB N zeroW := ⟨(fun h => by cases h), (fun k r h => by cases h), Int.le_refl _, by decide, Int.le_refl _, by decide⟩
theorem GoodB.way {u lo : Int} {l t : List R2} {N : Nat} (hf : frB u lo l = true) (ht : frB u lo t = true) (hl : l.length = N) (htl : t.length = N) : GoodB N (wayT l N t) := by
 have hh := frB_head hf
 have hb := beads_bound (btw_small hf ht N) (btw l t N).length
 rw [List.take_of_length_le (Nat.le_refl _)] at hb
 have hm := btw_len l t N
 refine ⟨fun _ => htl, fun k r hr => ?_, ?_, ?_, ?_, ?_⟩
 · have := fr_nine ht k
   have hr2 : t[k]? = some r := hr
   rw [List.getD_eq_getElem?_getD, hr2, Option.getD_some] at this
   omega
 · show (0 : Int) ≤ ((btw l t N).length : Int)
   omega
 · show ((btw l t N).length : Int) ≤ 16
   omega
 · show 0 ≤ beads (btw l t N)
   omega
 · show beads (btw l t N) ≤ 16000
   omega
end Go.Proofs.Ytaghjaiaoajpiaa
namespace Go.Proofs.Ytaghjaiaoajpiaa
open Go.RowKit
set_option linter.unusedVariables false
set_option linter.unusedSimpArgs false
theorem btw_app (l t x : List R2) : ∀ k, k ≤ t.length → btw l (t ++ x) k = btw l t k := by
 intro k
 induction k with
 | zero => intro _; rfl
 | succ k ih => intro h; rw [btw, btw, ih (by omega), List.getD_eq_getElem?_getD (l := t ++ x), List.getElem?_append_left (by omega), ← List.getD_eq_getElem?_getD]
theorem beads_from (ms : List R3) : ∀ s : Int, ms.foldl (fun s m => s + ab m.c) s = s + beads ms := by
 induction ms with
 | nil => intro s; simp [beads]
 | cons m ms ih => intro s; unfold beads; rw [List.foldl_cons, List.foldl_cons, ih, ih (0 + ab m.c)]; omega
theorem beads_app (a b : List R3) : beads (a ++ b) = beads a + beads b := by
 rw [show beads (a ++ b) = (a ++ b).foldl (fun s m => s + ab m.c) 0 from rfl, List.foldl_append, beads_from]
 rfl
theorem wayT_snoc (l : List R2) {t : List R2} {r : Nat} (f : R2) (h : t.length = r) : wayT l (r + 1) (t ++ [f]) = wayNext (wayT l r t) r (l.getD r ⟨0, 0⟩) f := by
 have e : (t ++ [f]).getD r ⟨0, 0⟩ = f := by rw [List.getD_eq_getElem?_getD, List.getElem?_append_right (by omega), ← h, Nat.sub_self]; rfl
 unfold wayT wayNext
 rw [btw, btw_app l t [f] r (by omega), e, beads_app, List.length_append]
 simp
def GW (r : Nat) (c : Way) : Prop := c.ok = true ∧ c.l.length = r
structure Wko (bt : Way → Way → Bool) (r : Nat) : Prop where
 asy : ∀ a b, GW r a → GW r b → bt a b = true → bt b a = false
 nt : ∀ a b c, GW r a → GW r b → GW r c → bt a c = true → bt a b = true ∨ bt b c = true
 zero : ∀ a, a.ok = true → bt a zeroW = true
 mono : ∀ a b k rd f, GW r a → GW r b → bt a b = false → bt (wayNext a k rd f) (wayNext b k rd f) = false
def MinOf (bt : Way → Way → Bool) (S : Way → Prop) (s : Way) : Prop := (s = zeroW ∧ ∀ c, ¬ S c) ∨ (S s ∧ ∀ c, S c → bt c s = false)
theorem MinOf.same {bt : Way → Way → Bool} {S T : Way → Prop} {s : Way} (h : MinOf bt S s) (hT : ∀ d, T d ↔ S d) : MinOf bt T s := by
 rcases h with ⟨h1, h2⟩ | ⟨h1, h2⟩
 · exact Or.inl ⟨h1, fun c hc => h2 c ((hT c).1 hc)⟩
 · exact Or.inr ⟨(hT s).2 h1, fun c hc => h2 c ((hT c).1 hc)⟩
theorem MinOf.put {bt : Way → Way → Bool} {r : Nat} (hw : Wko bt r) {S D T : Way → Prop} {s c : Way} (h : MinOf bt S s) (hS : ∀ d, S d → GW r d) (hD : ∀ d, D d → GW r d) (hc : D c) (hDc : ∀ d, D d → bt d c = false) (hT : ∀ d, T d ↔ S d ∨ D d) : MinOf bt T (if bt c s = true then c else s) := by
 rcases h with ⟨h1, h2⟩ | ⟨h1, h2⟩
 · subst h1
   rw [if_pos (hw.zero c (hD c hc).1)]
   exact Or.inr ⟨(hT c).2 (Or.inr hc), fun d hd => by
    rcases (hT d).1 hd with h | h
    · exact absurd h (h2 d)
    · exact hDc d h⟩
 · by_cases hb : bt c s = true
   · rw [if_pos hb]
     refine Or.inr ⟨(hT c).2 (Or.inr hc), fun d hd => ?_⟩
     rcases (hT d).1 hd with h | h
     · cases e : bt d c with
       | false => rfl
       | true =>
         rcases hw.nt d s c (hS d h) (hS s h1) (hD c hc) e with h3 | h3
         · rw [h2 d h] at h3; cases h3
         · rw [hw.asy c s (hD c hc) (hS s h1) hb] at h3; cases h3
     · exact hDc d h
   · rw [if_neg hb]
     refine Or.inr ⟨(hT s).2 (Or.inl h1), fun d hd => ?_⟩
     rcases (hT d).1 hd with h | h
     · exact h2 d h
     · cases e : bt d s with
       | false => rfl
       | true =>
         rcases hw.nt d c s (hD d h) (hD c hc) (hS s h1) e with h3 | h3
         · rw [hDc d h] at h3; cases h3
         · exact absurd h3 hb
theorem Wko.irr {bt : Way → Way → Bool} {r : Nat} (hw : Wko bt r) {c : Way} (hc : GW r c) : bt c c = false := by
 cases e : bt c c with
 | false => rfl
 | true => rw [← hw.asy c c hc hc e, e]
theorem min_list {bt : Way → Way → Bool} {N : Nat} (hw : Wko bt N) (l : List R2) : ∀ (LL : List (List R2)) (S : Way → Prop) (s : Way), (∀ t ∈ LL, t.length = N) → (∀ d, S d → GW N d) → MinOf bt S s → MinOf bt (fun d => S d ∨ ∃ t ∈ LL, d = wayT l N t) (LL.foldl (fun s t => if bt (wayT l N t) s = true then wayT l N t else s) s) := by
 intro LL
 induction LL with
 | nil => intro S s _ _ h; exact h.same fun d => ⟨(fun h => by rcases h with h | ⟨t, ht, _⟩; exact h; cases ht), Or.inl⟩
 | cons t LL ih =>
   intro S s hl hS h
   have hg : GW N (wayT l N t) := ⟨rfl, hl t List.mem_cons_self⟩
   have h1 := MinOf.put (T := fun d => S d ∨ d = wayT l N t) hw h hS (D := fun d => d = wayT l N t) (fun d hd => by rw [hd]; exact hg) rfl (fun d hd => by rw [hd]; exact hw.irr hg) (fun d => Iff.rfl)
   rw [List.foldl_cons]
   refine (ih _ _ (fun x hx => hl x (List.mem_cons_of_mem _ hx)) (fun d hd => by rcases hd with hd | hd; exact hS d hd; rw [hd]; exact hg) h1).same fun d => ?_
   constructor
   · rintro (h | ⟨x, hx, rfl⟩)
     · exact Or.inl (Or.inl h)
     · rcases List.mem_cons.1 hx with rfl | hx
       · exact Or.inl (Or.inr rfl)
       · exact Or.inr ⟨x, hx, rfl⟩
   · rintro ((h | h) | ⟨x, hx, rfl⟩)
     · exact Or.inl h
     · exact Or.inr ⟨t, List.mem_cons_self, h⟩
     · exact Or.inr ⟨x, List.mem_cons_of_mem _ hx, rfl⟩
theorem min_all {bt : Way → Way → Bool} {N : Nat} (hw : Wko bt N) (l : List R2) (LL : List (List R2)) (hl : ∀ t ∈ LL, t.length = N) : MinOf bt (fun d => ∃ t ∈ LL, d = wayT l N t) (minT bt l N LL) :=
 (min_list hw l LL (fun _ => False) zeroW hl (fun d h => h.elim) (Or.inl ⟨rfl, fun c h => h⟩)).same fun d => ⟨Or.inr, fun h => by rcases h with h | h; exact h.elim; exact h⟩
theorem GW.next {r : Nat} {y : Way} (h : GW r y) (rd f : R2) : GW (r + 1) (wayNext y r rd f) := ⟨rfl, by show (y.l ++ [f]).length = r + 1; rw [List.length_append, h.2]; rfl⟩
theorem min_fold {bt : Way → Way → Bool} {r : Nat} (hw : Wko bt r) (hw' : Wko bt (r + 1)) (rd : R2) {C : Way → Prop} {x : Way} (hC : ∀ d, C d → GW r d) (hx : C x) (hm : ∀ d, C d → bt d x = false) : ∀ (fs : List R2) (S : Way → Prop) (s : Way), (∀ d, S d → GW (r + 1) d) → MinOf bt S s → MinOf bt (fun d => S d ∨ ∃ y, C y ∧ ∃ f ∈ fs, d = wayNext y r rd f) (wayFold bt x r rd s fs) := by
 intro fs
 induction fs with
 | nil => intro S s _ h; exact h.same fun d => ⟨(fun h => by rcases h with h | ⟨y, _, f, hf, _⟩; exact h; cases hf), Or.inl⟩
 | cons f fs ih =>
   intro S s hS h
   have h1 := MinOf.put (T := fun d => S d ∨ ∃ y, C y ∧ d = wayNext y r rd f) (c := wayNext x r rd f) hw' h hS (D := fun d => ∃ y, C y ∧ d = wayNext y r rd f) (fun d hd => by obtain ⟨y, hy, rfl⟩ := hd; exact (hC y hy).next rd f) ⟨x, hx, rfl⟩ (fun d hd => by obtain ⟨y, hy, rfl⟩ := hd; exact hw.mono y x r rd f (hC y hy) (hC x hx) (hm y hy)) (fun d => Iff.rfl)
   unfold wayFold
   rw [List.foldl_cons]
   refine (ih _ _ (fun d hd => by rcases hd with hd | ⟨y, hy, rfl⟩; exact hS d hd; exact (hC y hy).next rd f) h1).same fun d => ?_
   constructor
   · rintro (h | ⟨y, hy, g, hg, rfl⟩)
     · exact Or.inl (Or.inl h)
     · rcases List.mem_cons.1 hg with rfl | hg
       · exact Or.inl (Or.inr ⟨y, hy, rfl⟩)
       · exact Or.inr ⟨y, hy, g, hg, rfl⟩
   · rintro ((h | ⟨y, hy, rfl⟩) | ⟨y, hy, g, hg, rfl⟩)
     · exact Or.inl h
     · exact Or.inr ⟨y, hy, f, List.mem_cons_self, rfl⟩
     · exact Or.inr ⟨y, hy, g, List.mem_cons_of_mem _ hg, rfl⟩
theorem tgTo_len {u lo : Int} {r : Nat} {n : Int} {t : List R2} : ∀ {j : Nat}, t ∈ tgTo u lo (tgP u lo r) n j → t.length = r + 1 := by
 intro j
 induction j with
 | zero => intro ht; cases ht
 | succ j ij =>
   intro ht
   rw [tgTo] at ht
   rcases List.mem_append.1 ht with ht | ht
   · exact ij ht
   · unfold tgSt at ht
     split at ht
     · obtain ⟨s, hs, ht⟩ := List.mem_flatMap.1 ht
       obtain ⟨f, hf, rfl⟩ := List.mem_map.1 ht
       rw [List.length_append, (tgP_mem r _ s hs).1]
       rfl
     · cases ht
theorem min_best {bt : Way → Way → Bool} (hw : ∀ r, Wko bt r) (u lo : Int) (l : List R2) (h0 : bt ⟨[], 0, 0, true⟩ zeroW = true) : ∀ (r : Nat) (n : Int), MinOf bt (fun d => ∃ t ∈ tgP u lo r n, d = wayT l r t) (if (bestP bt u lo l r n).ok = true then bestP bt u lo l r n else zeroW) := by
 intro r
 induction r with
 | zero =>
   intro n
   have hg : GW 0 (⟨[], 0, 0, true⟩ : Way) := ⟨rfl, rfl⟩
   by_cases hn : n = 0
   · rw [show bestP bt u lo l 0 n = ⟨[], 0, 0, true⟩ by rw [bestP, hn]; rfl, if_pos rfl]
     refine Or.inr ⟨⟨[], by rw [tgP, if_pos hn]; exact List.mem_singleton.2 rfl, rfl⟩, fun c hc => ?_⟩
     obtain ⟨t, ht, rfl⟩ := hc
     rw [tgP, if_pos hn] at ht
     rw [List.mem_singleton.1 ht]
     exact (hw 0).irr hg
   · rw [show (bestP bt u lo l 0 n).ok = false by rw [bestP]; simp [hn], if_neg (by decide)]
     exact Or.inl ⟨rfl, fun c hc => by obtain ⟨t, ht, _⟩ := hc; rw [tgP, if_neg hn] at ht; cases ht⟩
 | succ r ih =>
   intro n
   have key : ∀ j, MinOf bt (fun d => ∃ t ∈ tgTo u lo (tgP u lo r) n j, d = wayT l (r + 1) t) (bestTo bt u lo l r (bestP bt u lo l r) n j) := by
    intro j
    induction j with
    | zero => exact Or.inl ⟨rfl, fun c hc => by obtain ⟨t, ht, _⟩ := hc; cases ht⟩
    | succ j ij =>
      rw [bestTo, bestSt, tgTo, tgSt]
      by_cases hv : valB n j = true
      · rw [if_pos hv, if_pos hv]
        have ih' := ih ((n - valT n j) / 10)
        have hC : ∀ d, (∃ t ∈ tgP u lo r ((n - valT n j) / 10), d = wayT l r t) → GW r d := fun d hd => by obtain ⟨t, ht, rfl⟩ := hd; exact ⟨rfl, (tgP_mem r _ t ht).1⟩
        by_cases ho : (bestP bt u lo l r ((n - valT n j) / 10)).ok = true
        · rw [if_pos ho]
          rw [if_pos ho] at ih'
          rcases ih' with ⟨h1, _⟩ | ⟨h1, h2⟩
          · rw [h1] at ho; cases ho
          · refine (min_fold (hw r) (hw (r + 1)) (l.getD r ⟨0, 0⟩) hC h1 h2 (forms u lo (valT n j)) _ _ (fun d hd => ?_) ij).same fun d => ?_
            · obtain ⟨t, ht, rfl⟩ := hd
              exact ⟨rfl, tgTo_len ht⟩
            · constructor
              · rintro ⟨t, ht, rfl⟩
                rcases List.mem_append.1 ht with ht | ht
                · exact Or.inl ⟨t, ht, rfl⟩
                · obtain ⟨s, hs, ht⟩ := List.mem_flatMap.1 ht
                  obtain ⟨f, hf, rfl⟩ := List.mem_map.1 ht
                  exact Or.inr ⟨wayT l r s, ⟨s, hs, rfl⟩, f, hf, wayT_snoc l f (tgP_mem r _ s hs).1⟩
              · rintro (⟨t, ht, rfl⟩ | ⟨y, ⟨s, hs, rfl⟩, f, hf, rfl⟩)
                · exact ⟨t, List.mem_append_left _ ht, rfl⟩
                · exact ⟨s ++ [f], List.mem_append_right _ (List.mem_flatMap.2 ⟨s, hs, List.mem_map.2 ⟨f, hf, rfl⟩⟩), (wayT_snoc l f (tgP_mem r _ s hs).1).symm⟩
        · rw [if_neg ho]
          rw [if_neg ho] at ih'
          rcases ih' with ⟨_, h2⟩ | ⟨h1, _⟩
          · refine ij.same fun d => ⟨fun ⟨t, ht, hd⟩ => ?_, fun ⟨t, ht, hd⟩ => ⟨t, List.mem_append_left _ ht, hd⟩⟩
            rcases List.mem_append.1 ht with ht | ht
            · exact ⟨t, ht, hd⟩
            · obtain ⟨s, hs, _⟩ := List.mem_flatMap.1 ht
              exact absurd ⟨s, hs, rfl⟩ (h2 (wayT l r s))
          · have := (hC _ h1).1
            cases this
      · rw [if_neg hv, if_neg hv, List.append_nil]
        exact ij
   have k2 := key 2
   rw [← bestP, ← tgP] at k2
   split
   · exact k2
   · rename_i ho
     rcases k2 with ⟨h1, h2⟩ | ⟨⟨t, ht, h1⟩, _⟩
     · exact Or.inl ⟨rfl, h2⟩
     · rw [h1] at ho; exact absurd rfl ho
end Go.Proofs.Ytaghjaiaoajpiaa
namespace Go.Proofs.Ytaghjaiaoajpiaa
open Go.RowKit
set_option linter.unusedVariables false
set_option linter.unusedSimpArgs false
theorem cmpP_neg : ∀ (a b : List R2), cmpP b a = - cmpP a b := by
 intro a
 induction a with
 | nil => intro b; cases b <;> rfl
 | cons x xs ih =>
   intro b
   cases b with
   | nil => rfl
   | cons y ys =>
     have := ih ys
     rw [cmpP, cmpP]
     split <;> split <;> (try split) <;> (try split) <;> omega
theorem cmpP_nt : ∀ (a b c : List R2), a.length = b.length → b.length = c.length → cmpP a c < 0 → cmpP a b < 0 ∨ cmpP b c < 0 := by
 intro a
 induction a with
 | nil =>
   intro b c h1 h2 h
   cases b with
   | nil =>
     cases c with
     | nil => exact absurd h (by decide)
     | cons z zs => cases h2
   | cons y ys => cases h1
 | cons x xs ih =>
   intro b c h1 h2 h
   cases b with
   | nil => cases h1
   | cons y ys =>
     cases c with
     | nil => cases h2
     | cons z zs =>
       have i := ih ys zs (by simpa using h1) (by simpa using h2)
       rw [cmpP] at h ⊢
       rw [cmpP]
       by_cases a1 : x.a - z.a = 0
       · rw [if_neg (by omega)] at h
         by_cases a2 : x.b - z.b = 0
         · rw [if_neg (by omega)] at h
           have := i h
           split <;> split <;> (try split) <;> (try split) <;> omega
         · rw [if_pos (by omega)] at h
           split <;> split <;> (try split) <;> (try split) <;> omega
       · rw [if_pos (by omega)] at h
         split <;> split <;> (try split) <;> (try split) <;> omega
theorem cmpP_snoc (f : R2) : ∀ (a b : List R2), a.length = b.length → cmpP (a ++ [f]) (b ++ [f]) = cmpP a b := by
 intro a
 induction a with
 | nil =>
   intro b h
   cases b with
   | nil => exact cmpP_self [f]
   | cons y ys => cases h
 | cons x xs ih =>
   intro b h
   cases b with
   | nil => cases h
   | cons y ys =>
     rw [List.cons_append, List.cons_append, cmpP, cmpP, ih ys (by simpa using h)]
theorem nearP_iff {a b : Way} (ha : a.ok = true) (hb : b.ok = true) : nearP a b = true ↔ a.m < b.m ∨ (a.m = b.m ∧ (a.b < b.b ∨ (a.b = b.b ∧ cmpP a.l b.l < 0))) := by
 unfold nearP
 rw [ha, hb]
 simp only [bne_self_eq_false, Bool.false_eq_true, if_false, Bool.true_eq_false]
 split
 · simp only [decide_eq_true_eq]; omega
 · split <;> simp only [decide_eq_true_eq] <;> omega
theorem nearP_no {a b : Way} (ha : a.ok = true) (hb : b.ok = true) : nearP a b = false ↔ ¬ (a.m < b.m ∨ (a.m = b.m ∧ (a.b < b.b ∨ (a.b = b.b ∧ cmpP a.l b.l < 0)))) := by
 rw [← nearP_iff ha hb]
 cases nearP a b <;> simp
theorem near_wko (r : Nat) : Wko nearP r where
 asy a b ha hb h := by
  rw [nearP_iff ha.1 hb.1] at h
  rw [nearP_no hb.1 ha.1, cmpP_neg a.l b.l]
  omega
 nt a b c ha hb hc h := by
  rw [nearP_iff ha.1 hc.1] at h
  rw [nearP_iff ha.1 hb.1, nearP_iff hb.1 hc.1]
  have := cmpP_nt a.l b.l c.l (by rw [ha.2, hb.2]) (by rw [hb.2, hc.2])
  omega
 zero a ha := by unfold nearP zeroW; rw [ha]; rfl
 mono a b k rd f ha hb h := by
  rw [nearP_no ha.1 hb.1] at h
  rw [nearP_no rfl rfl]
  show ¬ (a.m + _ < b.m + _ ∨ (a.m + _ = b.m + _ ∧ (a.b + _ < b.b + _ ∨ (a.b + _ = b.b + _ ∧ cmpP (a.l ++ [f]) (b.l ++ [f]) < 0))))
  rw [cmpP_snoc f a.l b.l (by rw [ha.2, hb.2])]
  omega
theorem fewP_iff {a b : Way} (ha : a.ok = true) (hb : b.ok = true) : fewP a b = decide (a.b < b.b) := by
 unfold fewP
 rw [ha, hb]
 rfl
theorem few_wko (r : Nat) : Wko fewP r where
 asy a b ha hb h := by
  rw [fewP_iff ha.1 hb.1, decide_eq_true_eq] at h
  rw [fewP_iff hb.1 ha.1, decide_eq_false_iff_not]
  omega
 nt a b c ha hb hc h := by
  rw [fewP_iff ha.1 hc.1, decide_eq_true_eq] at h
  rw [fewP_iff ha.1 hb.1, fewP_iff hb.1 hc.1, decide_eq_true_eq, decide_eq_true_eq]
  omega
 zero a ha := by unfold fewP zeroW; rw [ha]; rfl
 mono a b k rd f ha hb h := by
  rw [fewP_iff ha.1 hb.1, decide_eq_false_iff_not] at h
  rw [fewP_iff rfl rfl, decide_eq_false_iff_not]
  show ¬ a.b + _ < b.b + _
  omega
theorem near_one {S : Way → Prop} {r : Nat} {s s' : Way} (hS : ∀ d, S d → GW r d) (h : MinOf nearP S s) (h' : MinOf nearP S s') : s = s' := by
 rcases h with ⟨h1, h2⟩ | ⟨h1, h2⟩
 · rcases h' with ⟨h3, h4⟩ | ⟨h3, h4⟩
   · rw [h1, h3]
   · exact absurd h3 (h2 _)
 · rcases h' with ⟨h3, h4⟩ | ⟨h3, h4⟩
   · exact absurd h1 (h4 _)
   · have g := hS s h1
     have g' := hS s' h3
     have e1 := (nearP_no g.1 g'.1).1 (h4 s h1)
     have e2 := (nearP_no g'.1 g.1).1 (h2 s' h3)
     rw [cmpP_neg s.l s'.l] at e2
     have e3 : cmpP s.l s'.l = 0 := by omega
     have e4 := cmpP_zero _ _ (by rw [g.2, g'.2]) e3
     obtain ⟨l, m, b, o⟩ := s
     obtain ⟨l', m', b', o'⟩ := s'
     dsimp only at e4 e1 e2 e3 g g'
     obtain ⟨rfl, _⟩ := g
     obtain ⟨rfl, _⟩ := g'
     rw [e4, show m = m' by omega, show b = b' by omega]
theorem tg_GW {u lo : Int} (l : List R2) {N : Nat} {n : Int} : ∀ d, (∃ t ∈ tgP u lo N n, d = wayT l N t) → GW N d := fun d hd => by
 obtain ⟨t, ht, rfl⟩ := hd
 exact ⟨rfl, (tgP_mem N n t ht).1⟩
theorem minT_eq (u lo : Int) (l : List R2) (N : Nat) (n : Int) : minT nearP l N (tgP u lo N n) = if (bestP nearP u lo l N n).ok = true then bestP nearP u lo l N n else zeroW :=
 near_one (tg_GW l) (min_all (near_wko N) l _ fun t ht => (tgP_mem N n t ht).1) (min_best near_wko u lo l rfl N n)
/-- the best way of the program and the least one agree where there is one, and on whether -/
theorem best_ok (u lo : Int) (l : List R2) (N : Nat) (n : Int) : (minT nearP l N (tgP u lo N n)).ok = (bestP nearP u lo l N n).ok := by
 rw [minT_eq]
 split
 · rfl
 · rename_i h; rw [Bool.not_eq_true] at h; rw [h]; rfl
theorem best_eq (u lo : Int) (l : List R2) (N : Nat) (n : Int) (h : (bestP nearP u lo l N n).ok = true) : minT nearP l N (tgP u lo N n) = bestP nearP u lo l N n := by rw [minT_eq, if_pos h]
/-- what the best way is -/
theorem best_is {bt : Way → Way → Bool} (hw : ∀ r, Wko bt r) (u lo : Int) (l : List R2) (h0 : bt ⟨[], 0, 0, true⟩ zeroW = true) (N : Nat) (n : Int) : ((bestP bt u lo l N n).ok = false ∧ tgP u lo N n = []) ∨ ((bestP bt u lo l N n).ok = true ∧ ∃ t ∈ tgP u lo N n, bestP bt u lo l N n = wayT l N t ∧ ∀ x ∈ tgP u lo N n, bt (wayT l N x) (wayT l N t) = false) := by
 have h := min_best hw u lo l h0 N n
 by_cases ho : (bestP bt u lo l N n).ok = true
 · rw [if_pos ho] at h
   rcases h with ⟨h1, _⟩ | ⟨⟨t, ht, h1⟩, h2⟩
   · rw [h1] at ho; cases ho
   · exact Or.inr ⟨ho, t, ht, h1, fun x hx => by rw [← h1]; exact h2 _ ⟨x, hx, rfl⟩⟩
 · rw [if_neg ho] at h
   rw [Bool.not_eq_true] at ho
   rcases h with ⟨_, h2⟩ | ⟨⟨t, ht, h1⟩, _⟩
   · refine Or.inl ⟨ho, List.eq_nil_iff_forall_not_mem.2 fun t ht => h2 _ ⟨t, ht, rfl⟩⟩
   · have h2 := congrArg Way.ok h1
     cases h2
theorem few_eq (u lo : Int) (l : List R2) (N : Nat) (n : Int) : (minT fewP l N (tgP u lo N n)).ok = (bestP fewP u lo l N n).ok ∧ ((bestP fewP u lo l N n).ok = true → (minT fewP l N (tgP u lo N n)).b = (bestP fewP u lo l N n).b) := by
 have h1 := min_all (few_wko N) l (tgP u lo N n) fun t ht => (tgP_mem N n t ht).1
 rcases best_is few_wko u lo l rfl N n with ⟨h2, h3⟩ | ⟨h2, t, ht, h3, h4⟩
 · rw [h3, h2]
   exact ⟨rfl, fun h => by cases h⟩
 · rcases h1 with ⟨_, h5⟩ | ⟨⟨x, hx, h5⟩, h6⟩
   · exact absurd ⟨t, ht, rfl⟩ (h5 (wayT l N t))
   · rw [h5, h3]
     refine ⟨rfl, fun _ => ?_⟩
     have e1 := h4 x hx
     have e2 := h6 _ ⟨t, ht, rfl⟩
     rw [h5] at e2
     rw [fewP_iff rfl rfl, decide_eq_false_iff_not] at e1 e2
     omega
/-- targets: just the frames with the number -/
theorem formsN_in {lo v : Int} {y : R2} : ∀ {k : Nat}, 0 ≤ y.a → y.a < k → y.b = v - 5 * y.a → 0 ≤ y.b → y.b ≤ lo → y ∈ formsN lo v k := by
 intro k
 induction k with
 | zero => intro h1 h2; omega
 | succ k ih =>
   intro h1 h2 h3 h4 h5
   rw [formsN]
   by_cases hk : y.a = (k : Int)
   · refine List.mem_append_right _ ?_
     rw [← hk, if_pos (by rw [inB_iff]; omega), ← h3]
     exact List.mem_singleton.2 rfl
   · exact List.mem_append_left _ (ih h1 (by omega) h3 h4 h5)
theorem numR_snoc (t : List R2) (f : R2) : numR (t ++ [f]) = 10 * numR t + (5 * f.a + f.b) := by
 have := numR_take (l := t ++ [f]) (k := t.length) (r := f) (by rw [List.getElem?_append_right (Nat.le_refl _), Nat.sub_self]; rfl)
 rw [List.take_append_of_le_length (Nat.le_refl _), List.take_of_length_le (Nat.le_refl _), List.take_of_length_le (by simp)] at this
 exact this
theorem numR_nil : numR [] = 0 := rfl
theorem numR_ge : ∀ (t : List R2), (∀ y ∈ t, 0 ≤ y.a ∧ 0 ≤ y.b) → 0 ≤ numR t := by
 intro t ht
 have key : ∀ s : List R2, (∀ y ∈ s, 0 ≤ y.a ∧ 0 ≤ y.b) → 0 ≤ numR s := by
  intro s
  induction s with
  | nil => intro _; exact Int.le_refl _
  | cons y s ih =>
    intro hy
    have h1 := hy y List.mem_cons_self
    have h2 := ih fun z hz => hy z (List.mem_cons_of_mem _ hz)
    show 0 ≤ numD (dv y :: dsOf s)
    rw [numD_cons]
    have hp := pw_pos (dsOf s).length
    have : 0 ≤ dv y * pw (dsOf s).length := Int.mul_nonneg (by unfold dv; omega) (by omega)
    have h3 : 0 ≤ numD (dsOf s) := h2
    omega
 exact key t ht
theorem tgP_iff {u lo : Int} (hu : u ≤ 2) (hlo : lo ≤ 5) : ∀ (r : Nat) (n : Int) (t : List R2), 0 ≤ n → (t ∈ tgP u lo r n ↔ t.length = r ∧ (∀ y ∈ t, 0 ≤ y.a ∧ y.a ≤ u ∧ 0 ≤ y.b ∧ y.b ≤ lo) ∧ numR t = n) := by
 intro r
 induction r with
 | zero =>
   intro n t hn
   rw [tgP]
   constructor
   · intro h
     split at h
     · rename_i h0
       rw [List.mem_singleton.1 h]
       exact ⟨rfl, (fun y hy => by cases hy), h0.symm⟩
     · cases h
   · rintro ⟨h1, _, h3⟩
     obtain rfl : t = [] := List.eq_nil_of_length_eq_zero h1
     rw [if_pos (show n = 0 from h3.symm)]
     exact List.mem_singleton.2 rfl
 | succ r ih =>
   intro n t hn
   constructor
   · intro h
     obtain ⟨h1, h2⟩ := tgP_mem (r + 1) n t h
     refine ⟨h1, h2, ?_⟩
     rw [tgP] at h
     have key : ∀ j, t ∈ tgTo u lo (tgP u lo r) n j → numR t = n := by
      intro j
      induction j with
      | zero => intro h; cases h
      | succ j ij =>
        intro h
        rw [tgTo] at h
        rcases List.mem_append.1 h with h | h
        · exact ij h
        · unfold tgSt at h
          split at h
          · rename_i hv
            unfold valB at hv
            simp only [Bool.and_eq_true, decide_eq_true_eq] at hv
            obtain ⟨s, hs, h⟩ := List.mem_flatMap.1 h
            obtain ⟨f, hf, rfl⟩ := List.mem_map.1 h
            have e := ((ih _ s (by omega)).1 hs).2.2
            have hf := forms_mem hf
            rw [numR_snoc, e]
            unfold valT at hf ⊢ hv
            omega
          · cases h
     exact key 2 h
   · rintro ⟨h1, h2, h3⟩
     rcases List.eq_nil_or_concat t with rfl | ⟨s, f, rfl⟩
     · cases h1
     · rw [List.concat_eq_append] at h1 h2 h3 ⊢
       rw [numR_snoc] at h3
       have hf := h2 f (List.mem_append_right _ (List.mem_singleton.2 rfl))
       have hs : ∀ y ∈ s, 0 ≤ y.a ∧ y.a ≤ u ∧ 0 ≤ y.b ∧ y.b ≤ lo := fun y hy => h2 y (List.mem_append_left _ hy)
       have hn0 := numR_ge s fun y hy => by have := hs y hy; omega
       have hsl : s.length = r := by simpa using h1
       have mk : ∀ j, valT n j = 5 * f.a + f.b → s ++ [f] ∈ tgSt u lo (tgP u lo r) n j := by
        intro j hj
        unfold tgSt
        rw [if_pos (by unfold valB; rw [hj]; simp only [Bool.and_eq_true, decide_eq_true_eq]; omega), hj]
        refine List.mem_flatMap.2 ⟨s, (ih _ s (by omega)).2 ⟨hsl, hs, by omega⟩, List.mem_map.2 ⟨f, ?_, rfl⟩⟩
        exact formsN_in hf.1 (by omega) (by omega) hf.2.2.1 hf.2.2.2
       rw [tgP, tgTo, tgTo, tgTo]
       by_cases hv : 5 * f.a + f.b ≤ 9
       · exact List.mem_append_left _ (List.mem_append_right _ (mk 0 (by unfold valT; omega)))
       · exact List.mem_append_right _ (mk 1 (by unfold valT; omega))
end Go.Proofs.Ytaghjaiaoajpiaa
namespace Go.Proofs.Ytaghjaiaoajpiaa
open Go.RowKit
set_option linter.unusedVariables false
set_option linter.unusedSimpArgs false
def forL (n : Nat) (x : Int) (j : Nat) : List R2 := (List.range j).map fun k => rodD (dg n x k)
theorem forL_more (n : Nat) (x : Int) (j : Nat) : forL n x (j + 1) = forL n x j ++ [rodD (dg n x j)] := by unfold forL; rw [List.range_succ, List.map_append]; rfl
def RetFor (w : World) (u lo : Int) (l : List R2) (e : Ending) (w' : World) : Prop := ∃ A c, e = .returned (frV u lo A l.length c) ∧ w'.ownsRow w.heap.size 42 2 (.slice A l.length c) l.length (rowsV2 l) ∧ Below w.heap.size w w'
def FrE (S g : Nat) (N RB : Nat) (u lo x P y d : Int) (A : Option Addr) (len c k : Nat) (l : List R2) (vs : Nat → Value) (wx : World) : Nat → Prop
 | 0 => vs 21 = .pointer (some ⟨N, 2, none⟩)
 | 1 => vs 22 = .slice A len c
 | 2 => vs 23 = .int .i64 x
 | 3 => vs 24 = .int .i64 (k : Int)
 | 4 => vs 25 = .int .i64 P
 | 5 => vs 26 = .int .i64 y
 | 6 => vs 27 = .int .i64 d
 | 7 => vs 28 = .agg #[.int .i64 (d / 5), .int .i64 (d % 5)]
 | 8 => ∃ (x1 : Nat), vs 29 = .slice (some ⟨x1, 0, none⟩) 1 1 ∧ (S ≤ x1) ∧ (Value.ownBlock (.slice A len c) ≠ some x1) ∧ (Blk wx x1 42 #[.int .i64 (d / 5), .int .i64 (d % 5)])
 | 9 => ∃ (A2 : Option Addr) (c2 : Nat), vs 30 = .slice A2 (len + 1) c2 ∧ (wx.ownsRow S 42 2 (.slice A2 (len + 1) c2) (len + 1) (rowsV2 (l ++ [⟨d / 5, d % 5⟩])))
 | 10 => vs 31 = .pointer (some ⟨N, 2, none⟩)
 | 11 => ∃ (A2 : Option Addr) (c2 : Nat), (wx.ownsRow S 42 2 (.slice A2 (len + 1) c2) (len + 1) (rowsV2 (l ++ [⟨d / 5, d % 5⟩]))) ∧ (Blk wx N 26 #[.int .i64 u, .int .i64 lo, .slice A2 (len + 1) c2]) ∧ (Blk wx RB 26 #[.int .i64 0, .int .i64 0, .slice none 0 0]) ∧ (S ≤ N) ∧ (S ≤ RB)
 | _ => True
def FrEU : Nat → List Nat
 | 0 => [21]
 | 1 => [22]
 | 2 => [23]
 | 3 => [24]
 | 4 => [25]
 | 5 => [26]
 | 6 => [27]
 | 7 => [28]
 | 8 => [29]
 | 9 => [30]
 | 10 => [31]
 | 11 => []
 | _ => []
def FrER (g : Nat) (N RB : Nat) (u lo x P y d : Int) (A : Option Addr) (len c k : Nat) (l : List R2) (i : Nat) (wx wy : World) : Prop := if i = 9 then wx.grownBy wy (Value.ownBlock (.slice A len c)) else if i = 11 then KeepW 26 wx wy else Below wx.heap.size wx wy
theorem FrE_gr {S g : Nat} {N RB : Nat} {u lo x P y d : Int} {A : Option Addr} {len c k : Nat} {l : List R2} (hgS : True) {vs us : Nat → Value} {wx wy : World} {jN : Nat} (hGG : FrE S g N RB u lo x P y d A len c k l vs wx jN) (haG : ∀ d ∈ FrEU jN, us d = vs d) (hbG : Below wx.heap.size wx wy) : FrE S g N RB u lo x P y d A len c k l us wy jN := by
 match jN, hGG, haG with
 | 0, hGG, haG =>
   exact (haG 21 (by simp [FrEU])).trans hGG
 | 1, hGG, haG =>
   exact (haG 22 (by simp [FrEU])).trans hGG
 | 2, hGG, haG =>
   exact (haG 23 (by simp [FrEU])).trans hGG
 | 3, hGG, haG =>
   exact (haG 24 (by simp [FrEU])).trans hGG
 | 4, hGG, haG =>
   exact (haG 25 (by simp [FrEU])).trans hGG
 | 5, hGG, haG =>
   exact (haG 26 (by simp [FrEU])).trans hGG
 | 6, hGG, haG =>
   exact (haG 27 (by simp [FrEU])).trans hGG
 | 7, hGG, haG =>
   exact (haG 28 (by simp [FrEU])).trans hGG
 | 8, hGG, haG =>
   obtain ⟨xG0, eG, fG0, fG1, fG2⟩ := hGG
   exact ⟨xG0, (haG 29 (by simp [FrEU])).trans eG, fG0, fG1, fG2.ext hbG⟩
 | 9, hGG, haG =>
   obtain ⟨xG0, xG1, eG, fG0⟩ := hGG
   exact ⟨xG0, xG1, (haG 30 (by simp [FrEU])).trans eG, own_ext fG0 hbG⟩
 | 10, hGG, haG =>
   exact (haG 31 (by simp [FrEU])).trans hGG
 | 11, hGG, haG =>
   obtain ⟨xG0, xG1, fG0, fG1, fG2, fG3, fG4⟩ := hGG
   exact ⟨xG0, xG1, own_ext fG0 hbG, fG1.ext hbG, fG2.ext hbG, fG3, fG4⟩
 | jN + 12, _, _ => trivial
theorem FrE_9 {S g : Nat} {N RB : Nat} {u lo x P y d : Int} {A : Option Addr} {len c k : Nat} {l : List R2} (hgS : True) {vs us : Nat → Value} {wx wy : World} {jN : Nat} (hneG : jN ≠ 9 ∧ jN ≠ 11) (hGG : FrE S g N RB u lo x P y d A len c k l vs wx jN) (haG : ∀ d ∈ FrEU jN, us d = vs d) (hbG : wx.grownBy wy (Value.ownBlock (.slice A len c))) : FrE S g N RB u lo x P y d A len c k l us wy jN := by
 match jN, hGG, haG, hneG with
 | 0, hGG, haG, hneG =>
   exact (haG 21 (by simp [FrEU])).trans hGG
 | 1, hGG, haG, hneG =>
   exact (haG 22 (by simp [FrEU])).trans hGG
 | 2, hGG, haG, hneG =>
   exact (haG 23 (by simp [FrEU])).trans hGG
 | 3, hGG, haG, hneG =>
   exact (haG 24 (by simp [FrEU])).trans hGG
 | 4, hGG, haG, hneG =>
   exact (haG 25 (by simp [FrEU])).trans hGG
 | 5, hGG, haG, hneG =>
   exact (haG 26 (by simp [FrEU])).trans hGG
 | 6, hGG, haG, hneG =>
   exact (haG 27 (by simp [FrEU])).trans hGG
 | 7, hGG, haG, hneG =>
   exact (haG 28 (by simp [FrEU])).trans hGG
 | 8, hGG, haG, hneG =>
   obtain ⟨xG0, eG, fG0, fG1, fG2⟩ := hGG
   exact ⟨xG0, (haG 29 (by simp [FrEU])).trans eG, fG0, fG1, fG2.grownF hbG fG1⟩
 | 9, hGG, haG, hneG =>
   exact absurd rfl hneG.1
 | 10, hGG, haG, hneG =>
   exact (haG 31 (by simp [FrEU])).trans hGG
 | 11, hGG, haG, hneG =>
   exact absurd rfl hneG.2
 | jN + 12, _, _, _ => trivial
theorem FrE_11 {S g : Nat} {N RB : Nat} {u lo x P y d : Int} {A : Option Addr} {len c k : Nat} {l : List R2} (hgS : True) {vs us : Nat → Value} {wx wy : World} {jN : Nat} (hneG : jN ≠ 11) (hGG : FrE S g N RB u lo x P y d A len c k l vs wx jN) (haG : ∀ d ∈ FrEU jN, us d = vs d) (hbG : KeepW 26 wx wy) : FrE S g N RB u lo x P y d A len c k l us wy jN := by
 match jN, hGG, haG, hneG with
 | 0, hGG, haG, hneG =>
   exact (haG 21 (by simp [FrEU])).trans hGG
 | 1, hGG, haG, hneG =>
   exact (haG 22 (by simp [FrEU])).trans hGG
 | 2, hGG, haG, hneG =>
   exact (haG 23 (by simp [FrEU])).trans hGG
 | 3, hGG, haG, hneG =>
   exact (haG 24 (by simp [FrEU])).trans hGG
 | 4, hGG, haG, hneG =>
   exact (haG 25 (by simp [FrEU])).trans hGG
 | 5, hGG, haG, hneG =>
   exact (haG 26 (by simp [FrEU])).trans hGG
 | 6, hGG, haG, hneG =>
   exact (haG 27 (by simp [FrEU])).trans hGG
 | 7, hGG, haG, hneG =>
   exact (haG 28 (by simp [FrEU])).trans hGG
 | 8, hGG, haG, hneG =>
   obtain ⟨xG0, eG, fG0, fG1, fG2⟩ := hGG
   exact ⟨xG0, (haG 29 (by simp [FrEU])).trans eG, fG0, fG1, hbG.2.1 _ _ _ fG2 (by decide)⟩
 | 9, hGG, haG, hneG =>
   obtain ⟨xG0, xG1, eG, fG0⟩ := hGG
   exact ⟨xG0, xG1, (haG 30 (by simp [FrEU])).trans eG, hbG.own fG0 (by decide)⟩
 | 10, hGG, haG, hneG =>
   exact (haG 31 (by simp [FrEU])).trans hGG
 | 11, hGG, haG, hneG =>
   exact absurd rfl hneG
 | jN + 12, _, _, _ => trivial
def FrEP (j i : Nat) : Bool := (j == 11 && i == 9)
theorem FrE_keep {S g : Nat} {N RB : Nat} {u lo x P y d : Int} {A : Option Addr} {len c k : Nat} {l : List R2} (hgS : True) {vs us : Nat → Value} {wx wy : World} {iN jN : Nat} (hneG : iN ≠ jN) (hdpG : FrEP jN iN = false) (hGG : FrE S g N RB u lo x P y d A len c k l vs wx jN) (haG : ∀ d ∈ FrEU jN, us d = vs d) (hbG : FrER g N RB u lo x P y d A len c k l iN wx wy) : FrE S g N RB u lo x P y d A len c k l us wy jN := by
 unfold FrER at hbG
 by_cases h9 : iN = 9
 · rw [if_pos h9] at hbG
   exact FrE_9 hgS ⟨by omega, (fun e => by subst e; subst h9; cases hdpG)⟩ hGG haG hbG
 rw [if_neg h9] at hbG
 by_cases h11 : iN = 11
 · rw [if_pos h11] at hbG
   exact FrE_11 hgS (by omega) hGG haG hbG
 rw [if_neg h11] at hbG
 exact FrE_gr hgS hGG haG hbG
end Go.Proofs.Ytaghjaiaoajpiaa
