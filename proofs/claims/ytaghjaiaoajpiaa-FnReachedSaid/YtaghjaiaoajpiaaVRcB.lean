/- A number put into an ascending list in its place. -/
import Derived.Test.YtaghjaiaoajpiaaVM9
namespace Go.Proofs.Ytaghjaiaoajpiaa
open Go.RowKit
set_option linter.unusedVariables false
set_option linter.unusedSimpArgs false
theorem ints_one (l : List Int) : ∀ u ∈ intsV l, u.oneCell' = true := by
 intro u hu
 unfold intsV at hu
 obtain ⟨r, _, hr⟩ := List.mem_map.1 hu
 subst hr
 rfl
theorem run_copy_shift {P : Program} {w : World} (dT sT ty elem : TypeId) (hu : P.underlying dT = some (.slice elem)) (hsz : (P.info? elem).map (·.size) = some 1)
 (B g n c k : Nat) (t : TypeId) (xs : List Value) (hown : w.ownsRow B t 1 (.slice (some ⟨g, 0, none⟩) (n + 1) c) (n + 1) xs) (hk : k ≤ n) (h1 : ∀ v ∈ xs, v.oneCell' = true)
 (dp : Option Addr) (dLen dCap sCap : Nat) (hdl : dLen = n - k) (hdp : k < n → dp = some ⟨g, k + 1, none⟩) :
 ∃ z w', (Builtin.copy_ #[dT, sT] ty #[.slice dp dLen dCap, .slice (some ⟨g, k, none⟩) (n + 1 - k) sCap]).run P w = .ok z w' ∧ w'.ownsRow B t 1 (.slice (some ⟨g, 0, none⟩) (n + 1) c) (n + 1) (xs.take (k + 1) ++ (xs.drop k).take (n - k)) ∧ w.grownBy w' (some g) := by
 have hlen : xs.length = n + 1 := by have := hown.1; omega
 by_cases h0 : k = n
 · subst h0
   have hrun := run_copy_none (P := P) w dT sT ty elem dp (some ⟨g, k, none⟩) dLen dCap (k + 1 - k) sCap hu hsz (by rw [hdl, Nat.sub_self]; exact Nat.min_zero _)
   exact ⟨_, w, hrun, by rw [Nat.sub_self, List.take_zero, List.append_nil, List.take_of_length_le (by omega)]; exact hown, World.grownBy.refl _ _⟩
 · obtain rfl := hdp (by omega)
   rcases hown.2 with ⟨h', _⟩ | ⟨g', cap', cur, h', hbg, hg, hnc, hcm, hcs, htake⟩
   · cases h'
   · simp only [Value.slice.injEq, Option.some.injEq, Addr.mk.injEq, and_true, true_and] at h'
     obtain ⟨rfl, rfl⟩ := h'
     have hcl : cur.toList.length = c := by rw [Array.length_toList, hcs, Nat.mul_one]
     rw [Nat.mul_one] at htake
     obtain ⟨cs, hcsE⟩ : ∃ cs, cs = (xs.drop k).take (n - k) := ⟨_, rfl⟩
     have hcsl : cs.length = n - k := by rw [hcsE, List.length_take, List.length_drop]; omega
     have hrun := run_copy_row (P := P) w dT sT ty elem g (k + 1) dLen dCap ⟨g, k, none⟩ (n + 1 - k) sCap cur t cs hu hsz hg (by rw [hcsl, hdl]; show n - k = min _ _; omega) (fun j v hv => by
      have e1 : xs[k + j]? = some v := by
       rw [hcsE, List.getElem?_take] at hv
       split at hv
       · rw [List.getElem?_drop] at hv; exact hv
       · cases hv
      have hj : k + j < n + 1 := by have := (List.getElem?_eq_some_iff.1 e1).1; omega
      rw [add_flat, World.ownsRow.cellAt hown (k + j) (by omega)]
      exact e1) (by rw [hcsl, hcs]; omega) (fun v hv => h1 v (by rw [hcsE] at hv; exact List.mem_of_mem_drop (List.mem_of_mem_take hv)))
     rw [← hcsE]
     rw [hcsl] at hrun
     have e0 : cur.toList.take (k + 1) = xs.take (k + 1) := by rw [← htake, List.take_take, Nat.min_eq_left (by omega)]
     obtain ⟨row, hrow⟩ : ∃ row, row = (cur.toList.take (k + 1) ++ cs ++ cur.toList.drop (k + 1 + (n - k))).toArray := ⟨_, rfl⟩
     have hown' : (w.setRow g row).ownsRow B t 1 (.slice (some ⟨g, 0, none⟩) (n + 1) c) (n + 1) (xs.take (k + 1) ++ cs) := by
      refine ⟨?_, .inr ⟨g, c, row, rfl, hbg, setRow_heap w g cur row t _ hg, hnc, hcm, ?_, ?_⟩⟩
      · rw [List.length_append, List.length_take, hcsl]; omega
      · rw [hrow, List.size_toArray, List.length_append, List.length_append, List.length_take, List.length_drop, hcl, hcsl]; omega
      · rw [hrow, Nat.mul_one, e0]
        show List.take (n + 1) (xs.take (k + 1) ++ cs ++ cur.toList.drop (k + 1 + (n - k))) = _
        rw [List.take_append_of_le_length (by rw [List.length_append, List.length_take, hcsl]; omega), List.take_of_length_le (by rw [List.length_append, List.length_take, hcsl]; omega)]
     have hgr' : w.grownBy (w.setRow g row) (some g) := ⟨rfl, rfl, rfl, by simp [World.setRow], fun j _ hj => setRow_other w g j _ (fun e => hj (by rw [e]))⟩
     rw [← hrow] at hrun
     exact ⟨_, _, hrun, hown', hgr'⟩
theorem KI.grown {B : Nat} {w w' : World} {n : Nat} {v : Value} {xs : List Value} (hr : w.ownsRow B 3 1 v n xs) {r : Option Nat} (he : r = v.ownBlock) (hg : w.grownBy w' r) (hB : B ≤ w.heap.size) : KI B w w' := by
 subst he
 exact KI.row hr hg hB
theorem shift_row {α : Type} (ys : List α) (z u : α) (k : Nat) (hk : k ≤ ys.length) : (((ys ++ [z]).take (k + 1) ++ ((ys ++ [z]).drop k).take (ys.length - k)).set k u) = ys.take k ++ u :: ys.drop k := by
 have e1 : (ys ++ [z]).drop k = ys.drop k ++ [z] := List.drop_append_of_le_length hk
 have e2 : (ys.drop k ++ [z]).take (ys.length - k) = ys.drop k := by
  rw [List.take_append_of_le_length (by rw [List.length_drop]; exact Nat.le_refl _)]
  exact List.take_of_length_le (by rw [List.length_drop]; exact Nat.le_refl _)
 obtain ⟨v, hv⟩ : ∃ v, (ys ++ [z])[k]? = some v := ⟨(ys ++ [z])[k]'(by simp; omega), List.getElem?_eq_getElem _⟩
 have e3 : (ys ++ [z]).take (k + 1) = ys.take k ++ [v] := by
  rw [List.take_add_one, hv, List.take_append_of_le_length hk]; rfl
 rw [e1, e2, e3, List.append_assoc, List.set_append_right _ _ (by rw [List.length_take]; omega)]
 simp [List.length_take, Nat.min_eq_left hk]
theorem shift_ints {l : List Int} {n k : Nat} {x : Int} (hl : l.length = n) (hk : k ≤ n) : (((intsV l ++ [Value.int .i64 0]).take (k + 1) ++ ((intsV l ++ [Value.int .i64 0]).drop k).take (n - k)).set k (.int .i64 x)) = intsV (l.take k ++ x :: l.drop k) := by
 subst hl
 have e : l.length = (intsV l).length := (intsV_len l).symm
 rw [show l.length - k = (intsV l).length - k by rw [← e], shift_row (intsV l) _ _ k (by omega)]
 simp [intsV, List.map_take, List.map_drop]
theorem shift_at {l : List Int} {n k : Nat} (hl : l.length = n) (hk : k ≤ n) : ∃ u, ((intsV l ++ [Value.int .i64 0]).take (k + 1) ++ ((intsV l ++ [Value.int .i64 0]).drop k).take (n - k))[k]? = some u := by
 have h : k < ((intsV l ++ [Value.int .i64 0]).take (k + 1) ++ ((intsV l ++ [Value.int .i64 0]).drop k).take (n - k)).length := by
  rw [List.length_append, List.length_take, List.length_append, intsV_len, hl]
  simp only [List.length_cons, List.length_nil]
  omega
 exact ⟨_, List.getElem?_eq_getElem h⟩
theorem own_capI {w : World} {base e size n c : Nat} {A : Option Addr} {xs : List Value} (h : w.ownsRow base e size (.slice A n c) n xs) : n ≤ c := by
 rcases h.2 with ⟨h', _⟩ | ⟨g', cap', cur, h', _, hg, hnc, _, _, _⟩
 · injection h' with _ h1 h2; omega
 · injection h' with _ h1 h2; omega
theorem own_some {w : World} {B e size n c : Nat} {A : Option Addr} {xs : List Value} (h : w.ownsRow B e size (.slice A n c) n xs) (hn : 0 < n) : ∃ g, A = some ⟨g, 0, none⟩ := by
 obtain ⟨g, cap, hv, _⟩ := h.form hn
 injection hv with hv
 exact ⟨g, hv⟩
theorem KI.set {B : Nat} {w w' : World} (h : KI B w w') {B2 g n c : Nat} {xs : List Value} (hr : w'.ownsRow B2 3 1 (.slice (some ⟨g, 0, none⟩) n c) n xs) (hB : B ≤ g) (k : Nat) (u : Value) : KI B w (w'.setCell ⟨g, k, none⟩ u) :=
 ⟨h.1.setCell (p := ⟨g, k, none⟩) hB u, fun b t cs hb ht => (h.2 b t cs hb ht).grownF (hr.stored k u).2 (own_nbT hr (h.2 b t cs hb ht) ht)⟩
set_option maxRecDepth 100000 in
set_option maxHeartbeats 8000000 in
theorem putInt_any (B : Nat) (A : Option Addr) (n c : Nat) (l : List Int) (x : Int) (w : World) (hB : B ≤ w.heap.size) (hn : n ≤ 1048576) (ho : w.ownsRow B 3 1 (.slice A n c) n (intsV l)) (ha : Asc l) :
 Calls Try.prog 58 #[.slice A n c, .int .i64 x] w (RetList B w (insN l x)) := by
 obtain ⟨i0, hi, hz0, hz1, hz2⟩ := info_parts info_int
 have hsz1 : (Try.prog.info? 3).map (·.size) = some 1 := by rw [hi]; exact congrArg some hz1
 have m6 : n + 1 ≤ maxLen := by unfold maxLen; omega
 have m7 : (n + 1) * 8 ≤ 140737488355328 := by omega
 have hl := ints_len (Reads.of_own ho)
 have HO := Lib.hid ho
 have H := Lib.hid (Reads.of_own ho)
 have HL := Lib.hid hl
 have HA := Lib.hid ha
 clear ho hl ha
 go_enter Try.func58, Try.ntmps58
 go_wp2
 go_loopw [5] (fun v wr => ∃ k : Nat, k ≤ n ∧ v = .int .i64 k ∧ w = wr ∧ Hid (∀ i y, k ≤ i → l[i]? = some y → x < y)) (fun i _ => (intOf i).toNat)
 case atStart => exact ⟨n, Nat.le_refl _, rfl, rfl, Lib.hid (fun i y hi hy => absurd (List.getElem?_eq_some_iff.1 hy).1 (by rw [HL.out]; omega))⟩
 case round =>
  obtain ⟨k, hk, rfl, rfl, HX⟩ := hrel
  have HLEN := Lib.hid (show (l.take k ++ x :: l.drop k).length = n + 1 from by
   have := HL.out
   rw [List.length_append, List.length_cons, List.length_take, List.length_drop]; omega)
  by_cases hk0 : k = 0
  · have kg : ¬ (0 : Int) < (k : Int) := by omega
    have kgb : decide ((0 : Int) < (k : Int)) = false := decide_eq_false kg
    have HI := Lib.hid (insN_right HA.out k (by rw [HL.out]; exact hk) (n := x) HX.out (fun j v h => absurd h (by omega)))
    clear HX hk0
    have hkw1 : IntKind.i64.wrap ((k : Int) + 1) = (k : Int) + 1 := by rw [IntKind.wrap_i64]; omega
    have hka : (0 : Int) ≤ (k : Int) + 1 := by omega
    have hkb : (k : Int) + 1 ≤ (n : Int) + 1 := by omega
    have hkd : (0 : Int) ≤ (k : Int) := by omega
    have hke : (k : Int) ≤ (n : Int) + 1 := by omega
    have hkf : ((k : Int) + 1).toNat = k + 1 := by omega
    go_upto_region 7 with (at_builtin; refine wpList_append_own _ rfl (.tmp 33) (.tmp 34) 29 rfl B 3 i0 _ 1 8 Try.underlying29 hi hz0 hz1 hz2 rfl (by decide) _ _ _ rfl (HO.out.alloc _) _ 1 1 [.int .i64 0] rfl rfl (cells_new_at _ [.int .i64 0] _ (by simp)) (by simp [Value.oneCell']) m6 m7 (by simp; omega) ?_; intro v' w2 hown2 hgrow _; obtain ⟨A5, c5, rfl⟩ := own_shape hown2; have hc5 := own_capI hown2; obtain ⟨g, hg5⟩ : ∃ g, A5 = some ⟨g, 0, none⟩ := (own_some hown2 (Nat.succ_pos n)); subst hg5; have hBg := (hown2.lt g rfl).1; have HK2 := Lib.hid ((KI.ext (ext_alloc (ext_refl w) _) hB).trans (KI.row (HO.out.alloc _) hgrow (by simp; omega))); have HO2 := Lib.hid hown2; clear hown2 hgrow)
    have hB2 := Nat.le_trans hB HK2.out.size
    have hkc2 : ¬ c5 = k := by omega
    by_cases hkc : c5 = k + 1
    · obtain rfl := hkc
      have hone : ∀ v ∈ intsV l ++ [Value.int .i64 0], v.oneCell' = true := by
       intro v hv
       rcases List.mem_append.1 hv with hv | hv
       · exact ints_one l v hv
       · rw [List.mem_singleton.1 hv]; rfl
      have hq1 := Lib.hid (show 0 = n - k by omega)
      have hq3 := Lib.hid (show k < n → (some ⟨g, 0, none⟩ : Option Addr) = some ⟨g, k + 1, none⟩ from (fun h => absurd h (by omega)))
      obtain ⟨zc, w4, hrun, hown4, hgrow4⟩ := run_copy_shift (P := Try.prog) (w := w2.drew) 29 29 3 3 Try.underlying29 hsz1 B g n (k + 1) k 3 _ (World.ownsRow.drew HO2.out) hk hone (some ⟨g, 0, none⟩) 0 0 1 hq1.out hq3.out
      obtain ⟨u4, hu4⟩ := shift_at (l := l) HL.out hk
      have hc4 := (World.ownsRow.cellAt hown4 k (by omega)).trans hu4
      have hf4 := World.ownsRow.frozenAt hown4 k
      have HK4 := Lib.hid ((HK2.out.trans (KI.ext (ext_drew (ext_refl _)) hB2)).trans (KI.grown (w := w2.drew) (World.ownsRow.drew HO2.out) rfl hgrow4 hB2))
      have HO4 := Lib.hid hown4
      clear hown4 hgrow4 hu4 hone
      go_region
      all_goals
       go_wp2
       go_ret
       unfold RetList
       rw [HI.out, show (l.take k ++ x :: l.drop k).length = n + 1 from HLEN.out]
       refine ⟨some ⟨g, 0, none⟩, _, rfl, ?_, KI.set HK4.out HO4.out hBg k _⟩
       have hst := (World.ownsRow.stored HO4.out k (.int .i64 x)).1
       rw [shift_ints HL.out hk] at hst
       exact hst
    · have hone : ∀ v ∈ intsV l ++ [Value.int .i64 0], v.oneCell' = true := by
       intro v hv
       rcases List.mem_append.1 hv with hv | hv
       · exact ints_one l v hv
       · rw [List.mem_singleton.1 hv]; rfl
      have hq1 := Lib.hid (show n - k = n - k by omega)
      have hq3 := Lib.hid (show k < n → (some ⟨g, k + 1, none⟩ : Option Addr) = some ⟨g, k + 1, none⟩ from (fun _ => rfl))
      obtain ⟨zc, w4, hrun, hown4, hgrow4⟩ := run_copy_shift (P := Try.prog) (w := w2.drew) 29 29 3 3 Try.underlying29 hsz1 B g n c5 k 3 _ (World.ownsRow.drew HO2.out) hk hone (some ⟨g, k + 1, none⟩) (n - k) (c5 - (k + 1)) (c5 - k) hq1.out hq3.out
      obtain ⟨u4, hu4⟩ := shift_at (l := l) HL.out hk
      have hc4 := (World.ownsRow.cellAt hown4 k (by omega)).trans hu4
      have hf4 := World.ownsRow.frozenAt hown4 k
      have HK4 := Lib.hid ((HK2.out.trans (KI.ext (ext_drew (ext_refl _)) hB2)).trans (KI.grown (w := w2.drew) (World.ownsRow.drew HO2.out) rfl hgrow4 hB2))
      have HO4 := Lib.hid hown4
      clear hown4 hgrow4 hu4 hone
      go_region
      all_goals
       go_wp2
       go_ret
       unfold RetList
       rw [HI.out, show (l.take k ++ x :: l.drop k).length = n + 1 from HLEN.out]
       refine ⟨some ⟨g, 0, none⟩, _, rfl, ?_, KI.set HK4.out HO4.out hBg k _⟩
       have hst := (World.ownsRow.stored HO4.out k (.int .i64 x)).1
       rw [shift_ints HL.out hk] at hst
       exact hst
  · have kg : (0 : Int) < (k : Int) := by omega
    have kgb : decide ((0 : Int) < (k : Int)) = true := decide_eq_true kg
    obtain ⟨j, hj⟩ : ∃ j : Nat, k = j + 1 := ⟨k - 1, by omega⟩
    have hkw : IntKind.i64.wrap ((k : Int) - 1) = (j : Int) := by rw [IntKind.wrap_i64]; omega
    have hjn : (j : Int) < (n : Int) := by omega
    have hj0 : (0 : Int) ≤ (j : Int) := by omega
    have hjk : j < k := by omega
    have HJ := Lib.hid hj
    clear hj
    obtain ⟨r, hr⟩ := list_split (l := l) (k := j) (by rw [HL.out]; omega)
    obtain ⟨b, o, rfl, hb, c0⟩ := ints_at H.out hr
    by_cases hxr : x < r
    · have kx : decide (x < r) = true := decide_eq_true hxr
      have HX2 := Lib.hid (show ∀ i y, j ≤ i → l[i]? = some y → x < y from fun i y hi hy => by
       rcases Nat.lt_or_ge i k with h | h
       · obtain rfl : i = j := by have := HJ.out; omega
         rw [hr] at hy
         cases hy
         exact hxr
       · exact HX.out i y h hy)
      clear hr HX
      go_wp2
      go_roundw
      case rel => exact ⟨j, by omega, rfl, by first | rfl | trivial, HX2⟩
      case measure => simp [intOf]; omega
    · have kx : decide (x < r) = false := decide_eq_false hxr
      by_cases he : r = x
      · have HI := Lib.hid (insN_have (n := x) HA.out (by rw [← he]; exact List.mem_of_getElem? hr))
        have ke : (r == x) = true := by simpa using he
        clear hr HX
        go_wp2
        go_ret
        unfold RetList
        rw [HI.out, HL.out]
        exact ⟨_, c, rfl, HO.out, KI.refl _ _⟩
      · have ke : (r == x) = false := by simpa using he
        have HI := Lib.hid (insN_right HA.out k (by rw [HL.out]; exact hk) (n := x) HX.out (fun j' v h hv => by
         obtain rfl : j' = j := by have := HJ.out; omega
         rw [hr] at hv
         cases hv
         omega))
        clear hr HX
        have hkw1 : IntKind.i64.wrap ((k : Int) + 1) = (k : Int) + 1 := by rw [IntKind.wrap_i64]; omega
        have hka : (0 : Int) ≤ (k : Int) + 1 := by omega
        have hkb : (k : Int) + 1 ≤ (n : Int) + 1 := by omega
        have hkd : (0 : Int) ≤ (k : Int) := by omega
        have hke : (k : Int) ≤ (n : Int) + 1 := by omega
        have hkf : ((k : Int) + 1).toNat = k + 1 := by omega
        go_upto_region 7 with (at_builtin; refine wpList_append_own _ rfl (.tmp 33) (.tmp 34) 29 rfl B 3 i0 _ 1 8 Try.underlying29 hi hz0 hz1 hz2 rfl (by decide) _ _ _ rfl (HO.out.alloc _) _ 1 1 [.int .i64 0] rfl rfl (cells_new_at _ [.int .i64 0] _ (by simp)) (by simp [Value.oneCell']) m6 m7 (by simp; omega) ?_; intro v' w2 hown2 hgrow _; obtain ⟨A5, c5, rfl⟩ := own_shape hown2; have hc5 := own_capI hown2; obtain ⟨g, hg5⟩ : ∃ g, A5 = some ⟨g, 0, none⟩ := (own_some hown2 (Nat.succ_pos n)); subst hg5; have hBg := (hown2.lt g rfl).1; have HK2 := Lib.hid ((KI.ext (ext_alloc (ext_refl w) _) hB).trans (KI.row (HO.out.alloc _) hgrow (by simp; omega))); have HO2 := Lib.hid hown2; clear hown2 hgrow)
        have hB2 := Nat.le_trans hB HK2.out.size
        have hkc2 : ¬ c5 = k := by omega
        by_cases hkc : c5 = k + 1
        · obtain rfl := hkc
          have hone : ∀ v ∈ intsV l ++ [Value.int .i64 0], v.oneCell' = true := by
           intro v hv
           rcases List.mem_append.1 hv with hv | hv
           · exact ints_one l v hv
           · rw [List.mem_singleton.1 hv]; rfl
          have hq1 := Lib.hid (show 0 = n - k by omega)
          have hq3 := Lib.hid (show k < n → (some ⟨g, 0, none⟩ : Option Addr) = some ⟨g, k + 1, none⟩ from (fun h => absurd h (by omega)))
          obtain ⟨zc, w4, hrun, hown4, hgrow4⟩ := run_copy_shift (P := Try.prog) (w := w2.drew) 29 29 3 3 Try.underlying29 hsz1 B g n (k + 1) k 3 _ (World.ownsRow.drew HO2.out) hk hone (some ⟨g, 0, none⟩) 0 0 1 hq1.out hq3.out
          obtain ⟨u4, hu4⟩ := shift_at (l := l) HL.out hk
          have hc4 := (World.ownsRow.cellAt hown4 k (by omega)).trans hu4
          have hf4 := World.ownsRow.frozenAt hown4 k
          have HK4 := Lib.hid ((HK2.out.trans (KI.ext (ext_drew (ext_refl _)) hB2)).trans (KI.grown (w := w2.drew) (World.ownsRow.drew HO2.out) rfl hgrow4 hB2))
          have HO4 := Lib.hid hown4
          clear hown4 hgrow4 hu4 hone
          go_region
          all_goals
           go_wp2
           go_ret
           unfold RetList
           rw [HI.out, show (l.take k ++ x :: l.drop k).length = n + 1 from HLEN.out]
           refine ⟨some ⟨g, 0, none⟩, _, rfl, ?_, KI.set HK4.out HO4.out hBg k _⟩
           have hst := (World.ownsRow.stored HO4.out k (.int .i64 x)).1
           rw [shift_ints HL.out hk] at hst
           exact hst
        · have hone : ∀ v ∈ intsV l ++ [Value.int .i64 0], v.oneCell' = true := by
           intro v hv
           rcases List.mem_append.1 hv with hv | hv
           · exact ints_one l v hv
           · rw [List.mem_singleton.1 hv]; rfl
          have hq1 := Lib.hid (show n - k = n - k by omega)
          have hq3 := Lib.hid (show k < n → (some ⟨g, k + 1, none⟩ : Option Addr) = some ⟨g, k + 1, none⟩ from (fun _ => rfl))
          obtain ⟨zc, w4, hrun, hown4, hgrow4⟩ := run_copy_shift (P := Try.prog) (w := w2.drew) 29 29 3 3 Try.underlying29 hsz1 B g n c5 k 3 _ (World.ownsRow.drew HO2.out) hk hone (some ⟨g, k + 1, none⟩) (n - k) (c5 - (k + 1)) (c5 - k) hq1.out hq3.out
          obtain ⟨u4, hu4⟩ := shift_at (l := l) HL.out hk
          have hc4 := (World.ownsRow.cellAt hown4 k (by omega)).trans hu4
          have hf4 := World.ownsRow.frozenAt hown4 k
          have HK4 := Lib.hid ((HK2.out.trans (KI.ext (ext_drew (ext_refl _)) hB2)).trans (KI.grown (w := w2.drew) (World.ownsRow.drew HO2.out) rfl hgrow4 hB2))
          have HO4 := Lib.hid hown4
          clear hown4 hgrow4 hu4 hone
          go_region
          all_goals
           go_wp2
           go_ret
           unfold RetList
           rw [HI.out, show (l.take k ++ x :: l.drop k).length = n + 1 from HLEN.out]
           refine ⟨some ⟨g, 0, none⟩, _, rfl, ?_, KI.set HK4.out HO4.out hBg k _⟩
           have hst := (World.ownsRow.stored HO4.out k (.int .i64 x)).1
           rw [shift_ints HL.out hk] at hst
           exact hst

end Go.Proofs.Ytaghjaiaoajpiaa
