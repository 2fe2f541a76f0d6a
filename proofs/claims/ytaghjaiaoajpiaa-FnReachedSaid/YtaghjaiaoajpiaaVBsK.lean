/- What the asked functions answer, plainly; the program's. -/
import Derived.Deep.CutBlock
import Derived.Test.YtaghjaiaoajpiaaVM7
import Derived.Test.YtaghjaiaoajpiaaVBsB
import Derived.Test.YtaghjaiaoajpiaaVM6
import Derived.Test.YtaghjaiaoajpiaaVFrA
import Derived.Test.YtaghjaiaoajpiaaVM4
namespace Go.Proofs.Ytaghjaiaoajpiaa
open Go.RowKit
set_option linter.unusedVariables false
set_option linter.unusedSimpArgs false
def askB (u lo : Int) (l : List R2) (m : Int) : Bool := frB u lo l && decide (0 ≤ m)
def nearW (u lo : Int) (l : List R2) (m : Int) : Way := if askB u lo l m = true then minT nearP l l.length (tgP u lo l.length m) else zeroW
def fewW (u lo : Int) (l : List R2) (m : Int) : Way := if askB u lo l m = true then bestP fewP u lo l l.length m else zeroW
def tgN (u lo : Int) (l : List R2) (m : Int) : Nat := if askB u lo l m = true then (tgP u lo l.length m).length else 0
theorem fold_some {bt : Way → Way → Bool} {x : Way} {k : Nat} {rd : R2} : ∀ (fs : List R2) (o : Way), (o = zeroW ∨ o.ok = true) → (wayFold bt x k rd o fs = zeroW ∨ (wayFold bt x k rd o fs).ok = true) := by
 intro fs
 induction fs with
 | nil => intro o h; exact h
 | cons f fs ih =>
   intro o h
   refine ih _ ?_
   unfold wayStep
   split
   · exact Or.inr rfl
   · exact h
theorem bestP_zero (bt : Way → Way → Bool) (u lo : Int) (l : List R2) (r : Nat) (n : Int) (h : (bestP bt u lo l (r + 1) n).ok = false) : bestP bt u lo l (r + 1) n = zeroW := by
 have key : ∀ j, bestTo bt u lo l r (bestP bt u lo l r) n j = zeroW ∨ (bestTo bt u lo l r (bestP bt u lo l r) n j).ok = true := by
  intro j
  induction j with
  | zero => exact Or.inl rfl
  | succ j ij =>
    rw [bestTo, bestSt]
    split
    · split
      · exact fold_some _ _ ij
      · exact ij
    · exact ij
 rcases key 2 with e | e
 · exact e
 · rw [bestP] at h
   rw [h] at e
   cases e
theorem nearW_best {u lo : Int} {l : List R2} {m : Int} (hf : frB u lo l = true) (h0 : 0 ≤ m) : nearW u lo l m = bestP nearP u lo l l.length m := by
 have hh := frB_head hf
 unfold nearW
 rw [if_pos (by unfold askB; rw [hf]; simp [h0]), minT_eq]
 split
 · rfl
 · rename_i ho
   rw [Bool.not_eq_true] at ho
   obtain ⟨r, hr⟩ : ∃ r, l.length = r + 1 := ⟨l.length - 1, by omega⟩
   rw [hr] at ho ⊢
   exact (bestP_zero _ _ _ _ _ _ ho).symm
/-- what the nearest way is -/
theorem near_is (u lo : Int) (l : List R2) (m : Int) : ((nearW u lo l m).ok = false ∧ nearW u lo l m = zeroW ∧ (askB u lo l m = true → tgP u lo l.length m = [])) ∨ ((nearW u lo l m).ok = true ∧ askB u lo l m = true ∧ ∃ t ∈ tgP u lo l.length m, nearW u lo l m = wayT l l.length t ∧ ∀ x ∈ tgP u lo l.length m, nearP (wayT l l.length x) (wayT l l.length t) = false) := by
 by_cases ha : askB u lo l m = true
 · have h := min_all (near_wko l.length) l (tgP u lo l.length m) fun t ht => (tgP_mem l.length m t ht).1
   have e : nearW u lo l m = minT nearP l l.length (tgP u lo l.length m) := by unfold nearW; rw [if_pos ha]
   rw [e]
   rcases h with ⟨h1, h2⟩ | ⟨⟨t, ht, h1⟩, h2⟩
   · rw [h1]
     exact Or.inl ⟨rfl, rfl, fun _ => List.eq_nil_iff_forall_not_mem.2 fun t ht => h2 _ ⟨t, ht, rfl⟩⟩
   · rw [h1] at h2 ⊢
     exact Or.inr ⟨rfl, ha, t, ht, rfl, fun x hx => h2 _ ⟨x, hx, rfl⟩⟩
 · have e : nearW u lo l m = zeroW := by unfold nearW; rw [if_neg ha]
   rw [e]
   exact Or.inl ⟨rfl, rfl, fun h => absurd h ha⟩
/-- what the way with the fewest beads is -/
theorem few_is (u lo : Int) (l : List R2) (m : Int) : ((fewW u lo l m).ok = false ∧ fewW u lo l m = zeroW ∧ (askB u lo l m = true → tgP u lo l.length m = [])) ∨ ((fewW u lo l m).ok = true ∧ askB u lo l m = true ∧ ∃ t ∈ tgP u lo l.length m, fewW u lo l m = wayT l l.length t ∧ ∀ x ∈ tgP u lo l.length m, beads (btw l t l.length) ≤ beads (btw l x l.length)) := by
 by_cases ha : askB u lo l m = true
 · have e : fewW u lo l m = bestP fewP u lo l l.length m := by unfold fewW; rw [if_pos ha]
   rw [e]
   rcases best_is few_wko u lo l rfl l.length m with ⟨h1, h2⟩ | ⟨h1, t, ht, h2, h3⟩
   · have hf : frB u lo l = true := by unfold askB at ha; simp at ha; exact ha.1
     have hh := frB_head hf
     refine Or.inl ⟨h1, ?_, fun _ => h2⟩
     obtain ⟨r, hr⟩ : ∃ r, l.length = r + 1 := ⟨l.length - 1, by omega⟩
     rw [hr] at h1 ⊢
     exact bestP_zero _ _ _ _ _ _ h1
   · refine Or.inr ⟨h1, ha, t, ht, h2, fun x hx => ?_⟩
     have := h3 x hx
     rw [fewP_iff rfl rfl, decide_eq_false_iff_not] at this
     unfold wayT at this
     dsimp only at this
     omega
 · have e : fewW u lo l m = zeroW := by unfold fewW; rw [if_neg ha]
   rw [e]
   exact Or.inl ⟨rfl, rfl, fun h => absurd h ha⟩
theorem nearW_len (u lo : Int) (l : List R2) (m : Int) (h : (nearW u lo l m).ok = true) : (nearW u lo l m).l.length = l.length := by
 rcases near_is u lo l m with ⟨h1, _⟩ | ⟨_, _, t, ht, h1, _⟩
 · rw [h1] at h; cases h
 · rw [h1]; exact (tgP_mem _ _ t ht).1
theorem nearW_fr (u lo : Int) (l : List R2) (m : Int) (h : (nearW u lo l m).ok = true) : frB u lo l = true ∧ frB u lo (nearW u lo l m).l = true := by
 rcases near_is u lo l m with ⟨h1, _⟩ | ⟨_, ha, t, ht, h1, _⟩
 · rw [h1] at h; cases h
 · rw [h1]
   have hf : frB u lo l = true := by unfold askB at ha; simp at ha; exact ha.1
   obtain ⟨e1, e2⟩ := tgP_mem _ _ t ht
   exact ⟨hf, frB_mk hf e1 e2⟩
theorem nearW_m (u lo : Int) (l : List R2) (m : Int) (h : (nearW u lo l m).ok = true) : (nearW u lo l m).m = ((btw l (nearW u lo l m).l l.length).length : Int) := by
 rcases near_is u lo l m with ⟨h1, _⟩ | ⟨_, _, t, ht, h1, _⟩
 · rw [h1] at h; cases h
 · rw [h1]; rfl
def nearMs (u lo : Int) (l : List R2) (m : Int) : List R3 := if (nearW u lo l m).ok = true then btw l (nearW u lo l m).l l.length else []
set_option maxRecDepth 100000 in
set_option maxHeartbeats 8000000 in
theorem nearest_any (u lo : Int) (A : Option Addr) (n c : Nat) (l : List R2) (m : Int) (w : World) (hn : n ≤ 1048576) (h63 : m ≤ 9223372036854775807) (h : Reads w w.heap.size 2 A n (rowsV2 l)) :
 Calls Try.prog 40 #[frV u lo A n c, .int .i64 m] w (RetWay w (nearW u lo l m)) := by
 have hl := rows_len2 h
 have H := Lib.hid h
 have BF0 := Lib.hid (Blk.born w #[.int .i64 u, .int .i64 lo, .slice A n c] 26 (H := w.heap.size) rfl)
 have hbx := Lib.hid (ext_alloc (ext_refl w) (.cells #[.int .i64 u, .int .i64 lo, .slice A n c] 26))
 clear h
 cases hf : frB u lo l
 · rw [show nearW u lo l m = zeroW by simp [nearW, askB, hf]]
   have HF := Lib.hid hf
   clear hf hl
   obtain ⟨N8, hN8⟩ : ∃ o9, w.heap.size + 1 = o9 := ⟨_, rfl⟩
   obtain ⟨W1, hW1⟩ : ∃ y : World, y = (w.alloc (.cells #[.int .i64 u, .int .i64 lo, .slice A n c] 26)).alloc (.cells #[.slice none 0 0, .int .i64 0, .int .i64 0, .bool false] 69) := ⟨_, rfl⟩
   have BF1 := Lib.hid (show Blk W1 w.heap.size 26 #[.int .i64 u, .int .i64 lo, .slice A n c] by rw [hW1]; exact BF0.out.al _)
   have BZ1 := Lib.hid (show Blk W1 N8 69 #[.slice none 0 0, .int .i64 0, .int .i64 0, .bool false] by rw [hW1]; exact Blk.born _ #[.slice none 0 0, .int .i64 0, .int .i64 0, .bool false] 69 (H := N8) (by rw [← hN8]; simp))
   have hb1 := Lib.hid (show Below w.heap.size w W1 by rw [hW1]; exact ext_alloc hbx.out _)
   have hw8 : w.heap.size < N8 := by omega
   clear BF0 hbx
   go_enter Try.func40, Try.ntmps40
   go_upto_region 1 with fail
   rw [← hW1]
   clear hW1
   obtain ⟨f0, f1, f2⟩ := BF1.out.q3
   have lF := BF1.out.lt
   go_wp2_with fail
   refine (isFrame_any u lo A n c l _ hn (rdx H.out hb1.out)).mono ?_
   rw [HF.out]
   rintro e w2 ⟨rfl, hb⟩
   have BF2 := Lib.hid (BF1.out.ext hb)
   have hb2 := Lib.hid (ext_trans hb1.out hb)
   have BZ2 := Lib.hid (BZ1.out.ext hb)
   clear BZ1
   obtain ⟨z0, z1, z2, z3⟩ := BZ2.out.z4
   obtain ⟨y0, y1, y2, y3⟩ := BZ2.out.q4
   have lZ := BZ2.out.lt
   clear hb f0 f1 f2 lF BF1 hb1
   obtain ⟨f0, f1, f2⟩ := BF2.out.q3
   have lF := BF2.out.lt
   go_wp2
   refine bodyPost_ret (v := .agg #[.slice none 0 0, .int .i64 0, .int .i64 0, .bool false]) (by simp [results, Try.results40, go_sem, *]) rfl ?_
   exact ⟨none, 0, rfl, World.ownsRow_nil _ _ _ _, fill4 hb2.out (by omega)⟩
 by_cases hm0 : 0 ≤ m
 · rw [nearW_best hf hm0, hl]
   have hG := GoodW.best nearP hf n m
   have HBN := Lib.hid (fun (w : World) h => bestN_any u lo A n c l hf hl n m w (Nat.le_refl n) hm0 h63 h)
   obtain ⟨X, hX⟩ : ∃ o9, bestP nearP u lo l n m = o9 := ⟨_, rfl⟩
   rw [hX] at HBN ⊢
   unfold RetWay at HBN
   have HF := Lib.hid hf
   have kb : decide (m < 0) = false := decide_eq_false (by omega)
   have kb2 : ¬ m < 0 := by omega
   clear hf hl hX hG
   obtain ⟨N8, hN8⟩ : ∃ o9, w.heap.size + 1 = o9 := ⟨_, rfl⟩
   obtain ⟨W1, hW1⟩ : ∃ y : World, y = (w.alloc (.cells #[.int .i64 u, .int .i64 lo, .slice A n c] 26)).alloc (.cells #[.slice none 0 0, .int .i64 0, .int .i64 0, .bool false] 69) := ⟨_, rfl⟩
   have BF1 := Lib.hid (show Blk W1 w.heap.size 26 #[.int .i64 u, .int .i64 lo, .slice A n c] by rw [hW1]; exact BF0.out.al _)
   have BZ1 := Lib.hid (show Blk W1 N8 69 #[.slice none 0 0, .int .i64 0, .int .i64 0, .bool false] by rw [hW1]; exact Blk.born _ #[.slice none 0 0, .int .i64 0, .int .i64 0, .bool false] 69 (H := N8) (by rw [← hN8]; simp))
   have hb1 := Lib.hid (show Below w.heap.size w W1 by rw [hW1]; exact ext_alloc hbx.out _)
   have hw8 : w.heap.size < N8 := by omega
   clear BF0 hbx
   go_enter Try.func40, Try.ntmps40
   go_upto_region 1 with fail
   rw [← hW1]
   clear hW1
   obtain ⟨f0, f1, f2⟩ := BF1.out.q3
   have lF := BF1.out.lt
   go_wp2_with fail
   refine (isFrame_any u lo A n c l _ hn (rdx H.out hb1.out)).mono ?_
   rw [HF.out]
   rintro e w2 ⟨rfl, hb⟩
   have BF2 := Lib.hid (BF1.out.ext hb)
   have hb2 := Lib.hid (ext_trans hb1.out hb)
   have BZ2 := Lib.hid (BZ1.out.ext hb)
   clear BZ1
   obtain ⟨z0, z1, z2, z3⟩ := BZ2.out.z4
   obtain ⟨y0, y1, y2, y3⟩ := BZ2.out.q4
   have lZ := BZ2.out.lt
   clear hb f0 f1 f2 lF BF1 hb1
   obtain ⟨f0, f1, f2⟩ := BF2.out.q3
   have lF := BF2.out.lt
   go_wp2_with fail
   refine (HBN.out _ (rdx H.out hb2.out)).mono ?_
   rintro e w3 ⟨A3, c3, rfl, ho3, hb3⟩
   have BZ3 := Lib.hid (BZ2.out.ext hb3)
   have ho4 := Lib.hid (own_base (base' := w.heap.size) ho3 hb2.out.size)
   have hb4 := Lib.hid (ext_trans hb2.out hb3)
   clear ho3 hb3 z0 z1 z2 z3 y0 y1 y2 y3 lZ f0 f1 f2 lF
   obtain ⟨z0, z1, z2, z3⟩ := BZ3.out.z4
   obtain ⟨y0, y1, y2, y3⟩ := BZ3.out.q4
   have lZ := BZ3.out.lt
   go_wp2
   refine bodyPost_ret (v := .agg #[.slice A3 X.l.length c3, .int .i64 X.m, .int .i64 X.b, .bool X.ok]) (by simp [results, Try.results40, go_sem, *]) rfl ?_
   exact ⟨A3, c3, rfl, own4 ho4.out (own_nbT ho4.out BZ3.out (by decide)), fill4 hb4.out (by omega)⟩
 · rw [show nearW u lo l m = zeroW by simp [nearW, askB, hm0]]
   have HF := Lib.hid hf
   have kb : decide (m < 0) = true := decide_eq_true (by omega)
   have kb2 : m < 0 := by omega
   clear hf hl
   obtain ⟨N8, hN8⟩ : ∃ o9, w.heap.size + 1 = o9 := ⟨_, rfl⟩
   obtain ⟨W1, hW1⟩ : ∃ y : World, y = (w.alloc (.cells #[.int .i64 u, .int .i64 lo, .slice A n c] 26)).alloc (.cells #[.slice none 0 0, .int .i64 0, .int .i64 0, .bool false] 69) := ⟨_, rfl⟩
   have BF1 := Lib.hid (show Blk W1 w.heap.size 26 #[.int .i64 u, .int .i64 lo, .slice A n c] by rw [hW1]; exact BF0.out.al _)
   have BZ1 := Lib.hid (show Blk W1 N8 69 #[.slice none 0 0, .int .i64 0, .int .i64 0, .bool false] by rw [hW1]; exact Blk.born _ #[.slice none 0 0, .int .i64 0, .int .i64 0, .bool false] 69 (H := N8) (by rw [← hN8]; simp))
   have hb1 := Lib.hid (show Below w.heap.size w W1 by rw [hW1]; exact ext_alloc hbx.out _)
   have hw8 : w.heap.size < N8 := by omega
   clear BF0 hbx
   go_enter Try.func40, Try.ntmps40
   go_upto_region 1 with fail
   rw [← hW1]
   clear hW1
   obtain ⟨f0, f1, f2⟩ := BF1.out.q3
   have lF := BF1.out.lt
   go_wp2_with fail
   refine (isFrame_any u lo A n c l _ hn (rdx H.out hb1.out)).mono ?_
   rw [HF.out]
   rintro e w2 ⟨rfl, hb⟩
   have BF2 := Lib.hid (BF1.out.ext hb)
   have hb2 := Lib.hid (ext_trans hb1.out hb)
   have BZ2 := Lib.hid (BZ1.out.ext hb)
   clear BZ1
   obtain ⟨z0, z1, z2, z3⟩ := BZ2.out.z4
   obtain ⟨y0, y1, y2, y3⟩ := BZ2.out.q4
   have lZ := BZ2.out.lt
   clear hb f0 f1 f2 lF BF1 hb1
   obtain ⟨f0, f1, f2⟩ := BF2.out.q3
   have lF := BF2.out.lt
   go_wp2
   refine bodyPost_ret (v := .agg #[.slice none 0 0, .int .i64 0, .int .i64 0, .bool false]) (by simp [results, Try.results40, go_sem, *]) rfl ?_
   exact ⟨none, 0, rfl, World.ownsRow_nil _ _ _ _, fill4 hb2.out (by omega)⟩
set_option maxRecDepth 100000 in
set_option maxHeartbeats 8000000 in
theorem implFewestMoves_any (u lo : Int) (A : Option Addr) (n c : Nat) (l : List R2) (m : Int) (w : World) (hn : n ≤ 1048576) (h63 : m ≤ 9223372036854775807) (h : Reads w w.heap.size 2 A n (rowsV2 l)) :
 Calls Try.prog 12 #[frV u lo A n c, .int .i64 m] w (RetV (.tuple #[.int .i64 (nearW u lo l m).m, .bool (nearW u lo l m).ok]) w) := by
 have hl := rows_len2 h
 have H := Lib.hid h
 have BF0 := Lib.hid (Blk.born w #[.int .i64 u, .int .i64 lo, .slice A n c] 26 (H := w.heap.size) rfl)
 have hbx := Lib.hid (ext_alloc (ext_refl w) (.cells #[.int .i64 u, .int .i64 lo, .slice A n c] 26))
 clear h
 have HN := Lib.hid (fun (w : World) h => nearest_any u lo A n c l m w hn h63 h)
 obtain ⟨X, hX⟩ : ∃ o9, nearW u lo l m = o9 := ⟨_, rfl⟩
 rw [hX] at HN ⊢
 unfold RetWay at HN
 clear hX hl
 have BF1 := BF0
 obtain ⟨W1, hW1⟩ : ∃ y : World, y = w.alloc (.cells #[.int .i64 u, .int .i64 lo, .slice A n c] 26) := ⟨_, rfl⟩
 rw [← hW1] at BF1
 have hb1 := Lib.hid (show Below w.heap.size w W1 by rw [hW1]; exact hbx.out)
 clear BF0 hbx
 go_enter Try.func12, Try.ntmps12
 go_upto_region 1 with fail
 rw [← hW1]
 clear hW1
 obtain ⟨f0, f1, f2⟩ := BF1.out.q3
 have lF := BF1.out.lt
 go_wp2_with fail
 refine (HN.out _ (rdx H.out hb1.out)).mono ?_
 rintro e w2 ⟨A2, c2, rfl, ho2, hb2⟩
 obtain ⟨N9, hN9⟩ : ∃ o9, w2.heap.size = o9 := ⟨_, rfl⟩
 obtain ⟨W3, hW3⟩ : ∃ y : World, y = w2.alloc (.cells #[.slice A2 X.l.length c2, .int .i64 X.m, .int .i64 X.b, .bool X.ok] 69) := ⟨_, rfl⟩
 have BX := Lib.hid (show Blk W3 N9 69 #[.slice A2 X.l.length c2, .int .i64 X.m, .int .i64 X.b, .bool X.ok] by rw [hW3]; exact Blk.born w2 _ 69 hN9.symm)
 have hb3 := Lib.hid (show Below w.heap.size w W3 by rw [hW3]; exact ext_alloc (ext_trans hb1.out hb2) _)
 have ho3 := Lib.hid (show W3.ownsRow w.heap.size 42 2 (.slice A2 X.l.length c2) X.l.length (rowsV2 X.l) by rw [hW3]; exact (own_base ho2 hb1.out.size).alloc _)
 have BF3 := Lib.hid (show Blk W3 w.heap.size 26 #[.int .i64 u, .int .i64 lo, .slice A n c] by rw [hW3]; exact (BF1.out.ext hb2).al _)
 clear ho2 hb2 f0 f1 f2 lF BF1 hb1
 go_upto_region 2 with fail
 rw [← hW3]
 clear hW3 hN9
 obtain ⟨x0, x1, x2, x3⟩ := BX.out.q4
 have lX := BX.out.lt
 go_region
 all_goals
  go_wp2
  go_ret2
  exact ⟨rfl, ext_drew hb3.out⟩
end Go.Proofs.Ytaghjaiaoajpiaa
