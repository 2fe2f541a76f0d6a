/- A number put into an ascending list, the list left as it is. -/
import Derived.Test.YtaghjaiaoajpiaaVRcB
namespace Go.Proofs.Ytaghjaiaoajpiaa
open Go.RowKit
set_option linter.unusedVariables false
set_option linter.unusedSimpArgs false
def RetList0 (B : Nat) (w : World) (l : List Int) (e : Ending) (w' : World) : Prop := ∃ A c, e = .returned (.slice A l.length c) ∧ w'.ownsRow B 3 1 (.slice A l.length c) l.length (intsV l) ∧ Below w.heap.size w w'
theorem ints_take {l : List Int} {k j : Nat} {u : Value} (h : (intsV (l.take k))[j]? = some u) : (intsV l)[0 + j]? = some u := by
 have e : intsV l = intsV (l.take k) ++ intsV (l.drop k) := by rw [← intsV_app, List.take_append_drop]
 rw [e, Nat.zero_add, List.getElem?_append_left (List.getElem?_eq_some_iff.1 h).1]
 exact h
theorem ints_drop {l : List Int} {k j : Nat} {u : Value} (hk : k ≤ l.length) (h : (intsV (l.drop k))[j]? = some u) : (intsV l)[k + j]? = some u := by
 have e : intsV l = intsV (l.take k) ++ intsV (l.drop k) := by rw [← intsV_app, List.take_append_drop]
 rw [e, List.getElem?_append_right (by rw [intsV_len, List.length_take]; omega), intsV_len, List.length_take]
 rw [show k + j - min k l.length = j by omega]
 exact h
theorem blk_news {w : World} {H : Nat} {t : TypeId} {x : Int} (h : Blk w H t #[.int .i64 x]) : ∀ ad, (some ⟨H, 0, none⟩ : Option Addr) = some ad → ∀ j u, (intsV [x])[j]? = some u → w.cell? (ad.add j) = some u := by
 intro ad e j u hu
 injection e with e
 subst e
 match j, hu with
 | 0, hu =>
   simp only [intsV, List.map_cons, List.map_nil, List.getElem?_cons_zero, Option.some.injEq] at hu
   subst hu
   rw [add_flat, Nat.zero_add]
   exact (cell_of_row w H 0 _ t (0, 0) h).trans (by simp)
theorem own_subI {w : World} {B e size h n c o : Nat} {xs ys : List Value} (hr : w.ownsRow B e size (.slice (some ⟨h, 0, none⟩) n c) n xs) (hs : ∀ j u, ys[j]? = some u → xs[o + j]? = some u) : ∀ ad, (some ⟨h, o, none⟩ : Option Addr) = some ad → ∀ j u, ys[j]? = some u → w.cell? (ad.add j) = some u := by
 intro ad e j u hu
 injection e with e
 subst e
 have := hr.cells rfl (o + j) u (hs j u hu)
 rw [add_flat, Nat.zero_add] at this
 rw [add_flat]
 exact this
section
variable {P : Program} {w : World} {ops : Array Oper} {rest : List Oper} {o : Oper} {a : Act} {Q : Exit → Act → World → Prop} {K : Act → World → Prop} {E : Prop}
/-- at a step of a region that draws its order: the source's cells are read -/
theorem step_appY (hgd : o.guard = none) (s x : Operand) (t : TypeId) (ho : o.op = .call { callee := .builtin .append, args := #[s, x], argTypes := #[t, t] })
 (base : Nat) (e : TypeId) (i : TypeInfo) (z : Value) (size bytes : Nat) (ht : P.underlying t = some (.slice e)) (hi : P.info? e = some i) (hz : i.zero = some z)
 (hsize : i.size = size) (hby : i.bytes = bytes) (hzs : z.cells.size = size) (hsz : 0 < size)
 (v : Value) (n : Nat) (xs : List Value) (hs : a.eval s = v) (hown : w.ownsRow base e size v n xs)
 (A : Option Addr) (m c : Nat) (ys : List Value) (hx : a.eval x = .slice A m c) (hl : ys.length = m * size) (hno : A = none → m = 0 ∧ c = 0) (hnews : ∀ ad, A = some ad → ∀ j u, ys[j]? = some u → w.cell? (ad.add j) = some u) (h1 : ∀ u ∈ ys, u.oneCell' = true)
 (h63 : n + m ≤ maxLen) (hbytes : (n + m) * bytes ≤ 140737488355328) (hbase : base ≤ w.heap.size)
 (h : ∀ A' c' w', w'.ownsRow base e size (.slice A' (n + m) c') (n + m) (xs ++ ys) → w.grownBy w' v.ownBlock → K (a.put o.dst (.slice A' (n + m) c')) w') :
 if Region.wanted o (yielded ops a.tmps) = true then Oper.wp P o a w K Q else E := by
 rw [if_pos (by simp [Region.wanted, hgd])]
 exact wp_appO s x t ho base e i z size bytes ht hi hz hsize hby hzs hsz v n xs hs hown A m c ys hx hl hno hnews h1 h63 hbytes hbase h
end
theorem step_appI {P : Program} {w : World} {ops : Array Oper} {o : Oper} {a : Act} {Q : Exit → Act → World → Prop} {K : Act → World → Prop} {E : Prop} (hgd : o.guard = none) (s x : Operand) (t : TypeId) (ho : o.op = .call { callee := .builtin .append, args := #[s, x], argTypes := #[t, t] })
 (w0 : World) (i : TypeInfo) (z : Value) {e : TypeId} (ht : P.underlying t = some (.slice e)) (hi : P.info? e = some i) (hz : i.zero = some z) (hsize : i.size = 1) (hby : i.bytes = 8)
 (v : Value) (n : Nat) (xs : List Int) (hs : a.eval s = v) (hown : w.ownsRow w0.heap.size e 1 v n (intsV xs)) (hb : Below w0.heap.size w0 w)
 (A : Option Addr) (m c : Nat) (ys : List Int) (hx : a.eval x = .slice A m c) (hl : ys.length = m) (hno : A = none → m = 0 ∧ c = 0) (hnews : Below w0.heap.size w0 w → ∀ ad, A = some ad → ∀ j u, (intsV ys)[j]? = some u → w.cell? (ad.add j) = some u)
 (h63 : n + m ≤ maxLen) (hbytes : (n + m) * 8 ≤ 140737488355328) (hzs : z.cells.size = 1)
 (h : ∀ A' c' w', Hid (w'.ownsRow w0.heap.size e 1 (.slice A' (n + m) c') (n + m) (intsV (xs ++ ys))) → Hid (Below w0.heap.size w0 w') → (∀ q t cs, Blk w q t cs → v.ownBlock ≠ some q → Blk w' q t cs) → K (a.put o.dst (.slice A' (n + m) c')) w') :
 if Region.wanted o (yielded ops a.tmps) = true then Oper.wp P o a w K Q else E := by
 refine step_appY hgd s x t ho w0.heap.size e i z 1 8 ht hi hz hsize hby hzs (by decide) v n (intsV xs) hs hown A m c (intsV ys) hx (by rw [intsV_len, hl, Nat.mul_one]) hno (hnews hb) (ints_one ys) h63 hbytes hb.size fun A' c' w' h2 h3 => ?_
 refine h A' c' w' (by rw [intsV_app]; exact Lib.hid h2) (Lib.hid (hb.trans (below_row hown h3 hb.size))) fun q t cs hq hne => hq.grownF h3 hne
theorem blkB (w : World) (x : Int) (t : TypeId) : Blk (((w.alloc (.cells #[] t)).alloc (.cells #[.int .i64 x] t)).drew) (w.heap.size + 1) t #[.int .i64 x] := Blk.born (w.alloc (.cells #[] t)) _ _ (by simp)
theorem blkC (w : World) (x : Int) (t : TypeId) : Blk (((w.alloc (.cells #[.int .i64 x] t)).alloc (.cells #[] t)).drew) w.heap.size t #[.int .i64 x] := (Blk.born w _ _ rfl).al _
theorem neB (a c d : Nat) : Value.ownBlock (.slice (some ⟨a, 0, none⟩) c d) ≠ some (a + 1) := by simp [Value.ownBlock]
theorem neC (a c d : Nat) : Value.ownBlock (.slice (some ⟨a + 1, 0, none⟩) c d) ≠ some a := by simp [Value.ownBlock]
set_option maxRecDepth 100000 in
set_option maxHeartbeats 8000000 in
theorem l1Put_any (B g n c : Nat) (l : List Int) (x : Int) (w : World) (hB : B ≤ w.heap.size) (hn : n ≤ 1048576) (ho : w.ownsRow B 3 1 (.slice (some ⟨g, 0, none⟩) n c) n (intsV l)) :
 Calls Try.prog 63 #[.slice (some ⟨g, 0, none⟩) n c, .int .i64 x] w (RetList0 B w (insN l x)) := by
 obtain ⟨i0, hi, hz0, hz1, hz2⟩ := info_parts info_int
 have hl := ints_len (Reads.of_own ho)
 have HO := Lib.hid ho
 have H := Lib.hid (Reads.of_own ho)
 have HL := Lib.hid hl
 clear ho hl
 go_enter Try.func63, Try.ntmps63
 go_wp2
 go_loopw [5] (fun v wr => ∃ k : Nat, k ≤ n ∧ v = .int .i64 k ∧ w = wr ∧ Hid (∀ i y, i < k → l[i]? = some y → y < x)) (fun i _ => n - (intOf i).toNat)
 case atStart => exact ⟨0, Nat.zero_le _, rfl, rfl, Lib.hid (fun i y hi => absurd hi (Nat.not_lt_zero i))⟩
 case round =>
  obtain ⟨k, hk, rfl, rfl, HX⟩ := hrel
  have HLEN := Lib.hid (show (l.take k ++ x :: l.drop k).length = n + 1 from by
   have := HL.out
   rw [List.length_append, List.length_cons, List.length_take, List.length_drop]; omega)
  have m1 : 0 + k ≤ maxLen := by unfold maxLen; omega
  have m2 : (0 + k) * 8 ≤ 140737488355328 := by omega
  have m3 : k + 1 ≤ maxLen := by unfold maxLen; omega
  have m4 : (k + 1) * 8 ≤ 140737488355328 := by omega
  have hn1 : (l.take k).length = k := by rw [List.length_take, HL.out]; omega
  have hk0 : (0 : Int) ≤ (k : Int) := by omega
  by_cases hlt : k < n
  · have hk1 : (k : Int) < (n : Int) := by omega
    have hk1b : decide ((k : Int) < (n : Int)) = true := decide_eq_true hk1
    obtain ⟨r, hr⟩ := list_split (l := l) (k := k) (by rw [HL.out]; exact hlt)
    obtain ⟨b, o, hA, hb, c0⟩ := ints_at H.out hr
    injection hA with hA
    injection hA with hA1 hA2
    subst hA1 hA2
    rw [Nat.zero_add] at c0
    by_cases hxr : r < x
    · have kx : decide (r < x) = true := decide_eq_true hxr
      have HX2 := Lib.hid (show ∀ i y, i < k + 1 → l[i]? = some y → y < x from fun i y hi hy => by
       rcases Nat.lt_or_ge i k with h | h
       · exact HX.out i y h hy
       · obtain rfl : i = k := by omega
         rw [hr] at hy
         cases hy
         exact hxr)
      clear hr HX
      go_wp2
      go_roundw
      case rel => exact ⟨k + 1, by omega, by go_num, by first | rfl | trivial, HX2⟩
      case measure => simp [intOf]; omega
    · have kx : decide (r < x) = false := decide_eq_false hxr
      have hin := insN_at (l := l) (n := x) k (by rw [HL.out]; exact hk) HX.out (fun v hv => by rw [hr] at hv; cases hv; omega)
      by_cases he : r = x
      · have HI := Lib.hid (show insN l x = l by rw [hin, if_pos (by rw [hr, he])])
        have ke : (r == x) = true := by simpa using he
        clear hr HX hin
        go_wp2
        go_ret
        unfold RetList0
        rw [HI.out, HL.out]
        exact ⟨_, c, rfl, HO.out, ext_refl _⟩
      · have ke : (r == x) = false := by simpa using he
        have HI := Lib.hid (show insN l x = l.take k ++ x :: l.drop k by rw [hin, if_neg (by rw [hr]; intro h; cases h; exact he rfl)])
        clear hr HX hin
        have hnc := own_capI HO.out
        have hkn1 : (k : Int) ≤ (n : Int) := by omega
        have hkc1 : (k : Int) ≤ (c : Int) := by omega
        have hkc : ¬ k = c := by omega
        have hkc2 : ¬ c = k := fun e => hkc e.symm
        have m5 : k + 1 + (n - k) ≤ maxLen := by unfold maxLen; omega
        have m6 : (k + 1 + (n - k)) * 8 ≤ 140737488355328 := by omega
        have hn3 : (l.drop k).length = n - k := by rw [List.length_drop, HL.out]
        go_upto_region 6 with fail
        go_region_held3 (fun _ => True) (trivial) (first
         | (refine step_appI rfl (.tmp 33) (.tmp 36) 29 rfl w i0 _ Try.underlying29 hi hz0 hz1 hz2 _ 0 [] rfl ?_ ?_ (some ⟨g, 0, none⟩) k _ (l.take k) rfl hn1 (fun e => nomatch e) (fun hb => own_subI (o := 0) (own_ext HO.out hb) (fun j u h => ints_take h)) m1 m2 rfl ?_; (first | exact World.ownsRow.drew (own_lit_at _ 3 1 (by simp) (by simp)) | exact World.ownsRow.drew (World.ownsRow.alloc (own_lit_at _ 3 1 (by simp) (by simp)) _)); (first | exact (ext_refl w) | exact ext_drew (ext_refl w) | exact ext_drew (ext_alloc (ext_refl w) _) | exact ext_drew (ext_alloc (ext_alloc (ext_refl w) _) _) | exact ext_alloc (ext_refl w) _); intro A4 c4 w4 HO4 hb4 hkp; rw [Nat.zero_add] at HO4; rw [List.nil_append] at HO4; rw [Nat.zero_add]; (first | (have BX := Lib.hid (hkp _ _ _ (blkB w x 3) (neB _ 0 0))) | (have BX := Lib.hid (hkp _ _ _ (blkC w x 3) (neC _ 0 0))) | (have BX := Lib.hid trivial)); clear hkp)
         | (refine step_appI rfl (.tmp 37) (.tmp 39) 29 rfl w i0 _ Try.underlying29 hi hz0 hz1 hz2 _ k (l.take k) rfl ?_ ?_ (some ⟨_, 0, none⟩) 1 1 [x] rfl rfl (fun e => nomatch e) ?_ m3 m4 rfl ?_; (first | exact HO4.out | exact World.ownsRow.drew HO4.out | exact World.ownsRow.drew (World.ownsRow.alloc HO4.out _) | exact World.ownsRow.alloc HO4.out _); (first | exact (hb4.out) | exact ext_drew (hb4.out) | exact ext_drew (ext_alloc (hb4.out) _) | exact ext_drew (ext_alloc (ext_alloc (hb4.out) _) _) | exact ext_alloc (hb4.out) _); (first | exact (fun _ => blk_news BX.out) | exact (fun _ => blk_news (Blk.born _ _ _ rfl))); intro A5 c5 w5 HO5 hb5 hkp; clear hkp)
         | (refine step_appI rfl (.tmp 40) (.tmp 43) 29 rfl w i0 _ Try.underlying29 hi hz0 hz1 hz2 _ (k + 1) (l.take k ++ [x]) rfl ?_ ?_ (some ⟨g, k, none⟩) (n - k) _ (l.drop k) rfl hn3 (fun e => nomatch e) (fun hb => own_subI (o := k) (own_ext HO.out hb) (fun j u h => ints_drop (by rw [HL.out]; exact hk) h)) m5 m6 rfl ?_; (first | exact HO5.out | exact World.ownsRow.drew HO5.out | exact World.ownsRow.drew (World.ownsRow.alloc HO5.out _) | exact World.ownsRow.alloc HO5.out _); (first | exact (hb5.out) | exact ext_drew (hb5.out) | exact ext_drew (ext_alloc (hb5.out) _) | exact ext_drew (ext_alloc (ext_alloc (hb5.out) _) _) | exact ext_alloc (hb5.out) _); intro A6 c6 w6 HO6 hb6 hkp; clear hkp))
        all_goals
         go_wp2
         go_ret
         unfold RetList0
         rw [HI.out, show (l.take k ++ x :: l.drop k).length = n + 1 from HLEN.out]
         have e9 : k + 1 + (n - k) = n + 1 := by omega
         have h9 := HO6.out
         rw [e9, show l.take k ++ [x] ++ l.drop k = l.take k ++ x :: l.drop k by simp] at h9
         exact ⟨A6, c6, by rw [e9]; rfl, own_base h9 hB, hb6.out⟩
  · have hk1 : ¬ (k : Int) < (n : Int) := by omega
    have hk1b : decide ((k : Int) < (n : Int)) = false := decide_eq_false hk1
    have hnone : l[k]? = none := List.getElem?_eq_none (by rw [HL.out]; omega)
    have HI := Lib.hid (show insN l x = l.take k ++ x :: l.drop k by rw [insN_at (l := l) (n := x) k (by rw [HL.out]; exact hk) HX.out (fun v hv => by rw [hnone] at hv; cases hv), if_neg (by rw [hnone]; intro h; cases h)])
    clear HX hnone
    have hnc := own_capI HO.out
    have hkn1 : (k : Int) ≤ (n : Int) := by omega
    have hkc1 : (k : Int) ≤ (c : Int) := by omega
    by_cases hkc : k = c
    · subst hkc
      have m5 : k + 1 + 0 ≤ maxLen := by unfold maxLen; omega
      have m6 : (k + 1 + 0) * 8 ≤ 140737488355328 := by omega
      go_upto_region 6 with fail
      go_region_held3 (fun _ => True) (trivial) (first
       | (refine step_appI rfl (.tmp 33) (.tmp 36) 29 rfl w i0 _ Try.underlying29 hi hz0 hz1 hz2 _ 0 [] rfl ?_ ?_ (some ⟨g, 0, none⟩) k _ (l.take k) rfl hn1 (fun e => nomatch e) (fun hb => own_subI (o := 0) (own_ext HO.out hb) (fun j u h => ints_take h)) m1 m2 rfl ?_; (first | exact World.ownsRow.drew (own_lit_at _ 3 1 (by simp) (by simp)) | exact World.ownsRow.drew (World.ownsRow.alloc (own_lit_at _ 3 1 (by simp) (by simp)) _)); (first | exact (ext_refl w) | exact ext_drew (ext_refl w) | exact ext_drew (ext_alloc (ext_refl w) _) | exact ext_drew (ext_alloc (ext_alloc (ext_refl w) _) _) | exact ext_alloc (ext_refl w) _); intro A4 c4 w4 HO4 hb4 hkp; rw [Nat.zero_add] at HO4; rw [List.nil_append] at HO4; rw [Nat.zero_add]; (first | (have BX := Lib.hid (hkp _ _ _ (blkB w x 3) (neB _ 0 0))) | (have BX := Lib.hid (hkp _ _ _ (blkC w x 3) (neC _ 0 0))) | (have BX := Lib.hid trivial)); clear hkp)
       | (refine step_appI rfl (.tmp 37) (.tmp 39) 29 rfl w i0 _ Try.underlying29 hi hz0 hz1 hz2 _ k (l.take k) rfl ?_ ?_ (some ⟨_, 0, none⟩) 1 1 [x] rfl rfl (fun e => nomatch e) ?_ m3 m4 rfl ?_; (first | exact HO4.out | exact World.ownsRow.drew HO4.out | exact World.ownsRow.drew (World.ownsRow.alloc HO4.out _) | exact World.ownsRow.alloc HO4.out _); (first | exact (hb4.out) | exact ext_drew (hb4.out) | exact ext_drew (ext_alloc (hb4.out) _) | exact ext_drew (ext_alloc (ext_alloc (hb4.out) _) _) | exact ext_alloc (hb4.out) _); (first | exact (fun _ => blk_news BX.out) | exact (fun _ => blk_news (Blk.born _ _ _ rfl))); intro A5 c5 w5 HO5 hb5 hkp; clear hkp)
       | (refine step_appI rfl (.tmp 40) (.tmp 43) 29 rfl w i0 _ Try.underlying29 hi hz0 hz1 hz2 _ (k + 1) (l.take k ++ [x]) rfl ?_ ?_ (some ⟨g, 0, none⟩) 0 _ ([] : List Int) rfl rfl (fun e => nomatch e) (fun _ _ _ j u h => nomatch h) m5 m6 rfl ?_; (first | exact HO5.out | exact World.ownsRow.drew HO5.out | exact World.ownsRow.drew (World.ownsRow.alloc HO5.out _) | exact World.ownsRow.alloc HO5.out _); (first | exact (hb5.out) | exact ext_drew (hb5.out) | exact ext_drew (ext_alloc (hb5.out) _) | exact ext_drew (ext_alloc (ext_alloc (hb5.out) _) _) | exact ext_alloc (hb5.out) _); intro A6 c6 w6 HO6 hb6 hkp; clear hkp))
      all_goals
       go_wp2
       go_ret
       unfold RetList0
       rw [HI.out, show (l.take k ++ x :: l.drop k).length = n + 1 from HLEN.out]
       obtain rfl : k = n := by omega
       refine ⟨A6, c6, rfl, own_base ?_ hB, hb6.out⟩
       have h9 := HO6.out
       rw [List.append_nil] at h9
       rw [show l.take k ++ x :: l.drop k = l.take k ++ [x] by rw [List.drop_eq_nil_of_le (by rw [HL.out]; exact Nat.le_refl _)]]
       exact h9
    · have hkc2 : ¬ c = k := fun e => hkc e.symm
      have m5 : k + 1 + (n - k) ≤ maxLen := by unfold maxLen; omega
      have m6 : (k + 1 + (n - k)) * 8 ≤ 140737488355328 := by omega
      have hn3 : (l.drop k).length = n - k := by rw [List.length_drop, HL.out]
      go_upto_region 6 with fail
      go_region_held3 (fun _ => True) (trivial) (first
       | (refine step_appI rfl (.tmp 33) (.tmp 36) 29 rfl w i0 _ Try.underlying29 hi hz0 hz1 hz2 _ 0 [] rfl ?_ ?_ (some ⟨g, 0, none⟩) k _ (l.take k) rfl hn1 (fun e => nomatch e) (fun hb => own_subI (o := 0) (own_ext HO.out hb) (fun j u h => ints_take h)) m1 m2 rfl ?_; (first | exact World.ownsRow.drew (own_lit_at _ 3 1 (by simp) (by simp)) | exact World.ownsRow.drew (World.ownsRow.alloc (own_lit_at _ 3 1 (by simp) (by simp)) _)); (first | exact (ext_refl w) | exact ext_drew (ext_refl w) | exact ext_drew (ext_alloc (ext_refl w) _) | exact ext_drew (ext_alloc (ext_alloc (ext_refl w) _) _) | exact ext_alloc (ext_refl w) _); intro A4 c4 w4 HO4 hb4 hkp; rw [Nat.zero_add] at HO4; rw [List.nil_append] at HO4; rw [Nat.zero_add]; (first | (have BX := Lib.hid (hkp _ _ _ (blkB w x 3) (neB _ 0 0))) | (have BX := Lib.hid (hkp _ _ _ (blkC w x 3) (neC _ 0 0))) | (have BX := Lib.hid trivial)); clear hkp)
       | (refine step_appI rfl (.tmp 37) (.tmp 39) 29 rfl w i0 _ Try.underlying29 hi hz0 hz1 hz2 _ k (l.take k) rfl ?_ ?_ (some ⟨_, 0, none⟩) 1 1 [x] rfl rfl (fun e => nomatch e) ?_ m3 m4 rfl ?_; (first | exact HO4.out | exact World.ownsRow.drew HO4.out | exact World.ownsRow.drew (World.ownsRow.alloc HO4.out _) | exact World.ownsRow.alloc HO4.out _); (first | exact (hb4.out) | exact ext_drew (hb4.out) | exact ext_drew (ext_alloc (hb4.out) _) | exact ext_drew (ext_alloc (ext_alloc (hb4.out) _) _) | exact ext_alloc (hb4.out) _); (first | exact (fun _ => blk_news BX.out) | exact (fun _ => blk_news (Blk.born _ _ _ rfl))); intro A5 c5 w5 HO5 hb5 hkp; clear hkp)
       | (refine step_appI rfl (.tmp 40) (.tmp 43) 29 rfl w i0 _ Try.underlying29 hi hz0 hz1 hz2 _ (k + 1) (l.take k ++ [x]) rfl ?_ ?_ (some ⟨g, k, none⟩) (n - k) _ (l.drop k) rfl hn3 (fun e => nomatch e) (fun hb => own_subI (o := k) (own_ext HO.out hb) (fun j u h => ints_drop (by rw [HL.out]; exact hk) h)) m5 m6 rfl ?_; (first | exact HO5.out | exact World.ownsRow.drew HO5.out | exact World.ownsRow.drew (World.ownsRow.alloc HO5.out _) | exact World.ownsRow.alloc HO5.out _); (first | exact (hb5.out) | exact ext_drew (hb5.out) | exact ext_drew (ext_alloc (hb5.out) _) | exact ext_drew (ext_alloc (ext_alloc (hb5.out) _) _) | exact ext_alloc (hb5.out) _); intro A6 c6 w6 HO6 hb6 hkp; clear hkp))
      all_goals
       go_wp2
       go_ret
       unfold RetList0
       rw [HI.out, show (l.take k ++ x :: l.drop k).length = n + 1 from HLEN.out]
       have e9 : k + 1 + (n - k) = n + 1 := by omega
       have h9 := HO6.out
       rw [e9, show l.take k ++ [x] ++ l.drop k = l.take k ++ x :: l.drop k by simp] at h9
       exact ⟨A6, c6, by rw [e9]; rfl, own_base h9 hB, hb6.out⟩

end Go.Proofs.Ytaghjaiaoajpiaa
