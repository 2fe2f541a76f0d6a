/- formsOf: all rods of a kind with a value. -/
import Derived.Test.YtnadafopgokleaaVGmE
import Derived.Test.YtnadafopgokleaaVGmB
import Derived.Test.YtnadafopgokleaaVRegN
namespace Go.Proofs.Ytnadafopgokleaa
open Go.RowKit
set_option linter.unusedVariables false
set_option linter.unusedSimpArgs false
def formsN (lo v : Int) : Nat → List R2
 | 0 => []
 | k + 1 => formsN lo v k ++ (if inB (v - 5 * (k : Int)) 0 lo = true then [⟨(k : Int), v - 5 * (k : Int)⟩] else [])
def forms (u lo v : Int) : List R2 := formsN lo v (u + 1).toNat
set_option maxRecDepth 100000 in
set_option maxHeartbeats 4000000 in
theorem formsOf_any (u lo v : Int) (w : World) (hu : 0 ≤ u ∧ u ≤ 1000) (hv : -1000 ≤ v ∧ v ≤ 1000) :
 Calls Try.prog 90 #[.int .i64 u, .int .i64 lo, .int .i64 v] w (RetSlice w 88 2 (forms u lo v).length (rowsV2 (forms u lo v))) := by
 obtain ⟨i0, hi, hz0, hz1, hz2⟩ := info_parts info_rod
 obtain ⟨N, hN⟩ := Int.eq_ofNat_of_zero_le (show 0 ≤ u + 1 by omega)
 have hNN : N ≤ 1001 := by omega
 have hE := Lib.hid (show forms u lo v = formsN lo v N by unfold forms; rw [hN]; rfl)
 go_enter Try.func90, Try.ntmps90
 go_wp2
 go_loopw [7, 8] (fun ov kv wr => ∃ (k : Nat) (A : Option Addr) (c : Nat) (L : List R2), k ≤ N ∧ kv = .int .i64 (k : Int) ∧ ov = .slice A L.length c ∧ L.length ≤ k ∧ Hid (formsN lo v k = L) ∧ Hid (wr.ownsRow w.heap.size 88 2 (.slice A L.length c) L.length (rowsV2 L)) ∧ Hid (Below w.heap.size w wr)) (fun _ kv _ => N - (intOf kv).toNat)
 case atStart => exact ⟨0, none, 0, [], Nat.zero_le _, rfl, rfl, Nat.le_refl _, Lib.hid rfl, Lib.hid (World.ownsRow_nil _ _ _ _), Lib.hid (ext_refl _)⟩
 case round =>
  obtain ⟨k, A, c, L, hk, rfl, rfl, hLk, HL, HO, HX⟩ := hrel
  obtain ⟨W, hW⟩ : ∃ y : World, y = wr := ⟨_, rfl⟩
  subst hW
  have hs1 : wrap64 (5 * (k : Int)) = 5 * (k : Int) := by unfold wrap64; omega
  have hs2 : wrap64 (v - 5 * (k : Int)) = v - 5 * (k : Int) := by unfold wrap64; omega
  by_cases hlt : k < N
  · have hle : (k : Int) ≤ u := by omega
    cases hin : inB (v - 5 * (k : Int)) 0 lo
    · have HL2 := Lib.hid (show formsN lo v (k + 1) = L by rw [formsN, HL.out, hin]; simp)
      go_wp2_with fail
      refine (inB_within (v - 5 * (k : Int)) 0 lo _).mono ?_
      rw [hin]
      rintro e wz ⟨rfl, rfl⟩
      go_wp2
      go_roundw
      case rel => exact ⟨k + 1, A, c, L, by omega, by go_num, rfl, by omega, HL2, HO, HX⟩
      case measure => simp [intOf]; omega
    · have HL2 := Lib.hid (show formsN lo v (k + 1) = L ++ [⟨(k : Int), v - 5 * (k : Int)⟩] by rw [formsN, HL.out, hin]; simp)
      have hbV := HX.out.size
      have m1 : L.length + 1 ≤ maxLen := by unfold maxLen; omega
      have m2 : (L.length + 1) * 16 ≤ 140737488355328 := by omega
      go_wp2_with fail
      refine (inB_within (v - 5 * (k : Int)) 0 lo _).mono ?_
      rw [hin]
      rintro e wz ⟨rfl, rfl⟩
      go_wp2_with (at_builtin; refine wpList_append_own _ rfl (.tmp 22) (.tmp 26) 22 rfl w.heap.size 88 i0 _ 2 16 Try.underlying22 hi hz0 hz1 hz2 rfl (by decide) (.slice A L.length c) L.length (rowsV2 L) rfl (HO.out.alloc (.cells #[.int .i64 (k : Int), .int .i64 (v - 5 * (k : Int))] 88)) _ 1 1 [.int .i64 (k : Int), .int .i64 (v - 5 * (k : Int))] rfl rfl (cells_new_at W [.int .i64 (k : Int), .int .i64 (v - 5 * (k : Int))] 88 rfl) (by simp [Value.oneCell']) m1 m2 (Nat.le_trans hbV (by simp)) ?_; intro v9 w6 hown hgrow _; obtain ⟨A4, c4, rfl⟩ := own_shape hown; have HGR := Lib.hid hgrow; have HOW := Lib.hid hown; clear hown hgrow)
      have HB6 := Lib.hid (below_grown' (HO.out.alloc (.cells #[.int .i64 (k : Int), .int .i64 (v - 5 * (k : Int))] 88)) (Nat.le_refl _) (ext_alloc HX.out (.cells #[.int .i64 (k : Int), .int .i64 (v - 5 * (k : Int))] 88)) HGR.out)
      have HO6 := Lib.hid (show w6.ownsRow w.heap.size 88 2 (.slice A4 (L.length + 1) c4) (L.length + 1) (rowsV2 (L ++ [⟨(k : Int), v - 5 * (k : Int)⟩])) by have h9 := HOW.out; simpa [rowsV2, R2.cells] using h9)
      go_wp2
      go_roundw
      case rel => exact ⟨k + 1, A4, c4, L ++ [⟨(k : Int), v - 5 * (k : Int)⟩], by omega, by go_num, by rw [List.length_append]; rfl, by rw [List.length_append]; show L.length + 1 ≤ k + 1; omega, HL2, by rw [List.length_append]; exact HO6, HB6⟩
      case measure => simp [intOf]; omega
  · obtain rfl : N = k := by omega
    have hle : ¬ (N : Int) ≤ u := by omega
    go_wp2
    go_ret
    rw [hE.out, HL.out]
    exact ⟨A, c, rfl, HO.out, HX.out⟩

set_option maxRecDepth 100000 in
set_option maxHeartbeats 4000000 in
theorem l13Forms_any (u lo v : Int) (w : World) (hu : 0 ≤ u ∧ u ≤ 1000) (hv : -1000 ≤ v ∧ v ≤ 1000) :
 Calls Try.prog 95 #[.int .i64 u, .int .i64 lo, .int .i64 v] w (RetSlice w 88 2 (forms u lo v).length (rowsV2 (forms u lo v))) := by
 obtain ⟨i0, hi, hz0, hz1, hz2⟩ := info_parts info_rod
 obtain ⟨N, hN⟩ := Int.eq_ofNat_of_zero_le (show 0 ≤ u + 1 by omega)
 have hNN : N ≤ 1001 := by omega
 have hE := Lib.hid (show forms u lo v = formsN lo v N by unfold forms; rw [hN]; rfl)
 go_enter Try.func95, Try.ntmps95
 go_wp2
 go_loopw [7, 8] (fun ov kv wr => ∃ (k : Nat) (A : Option Addr) (c : Nat) (L : List R2), k ≤ N ∧ kv = .int .i64 (k : Int) ∧ ov = .slice A L.length c ∧ L.length ≤ k ∧ Hid (formsN lo v k = L) ∧ Hid (wr.ownsRow w.heap.size 88 2 (.slice A L.length c) L.length (rowsV2 L)) ∧ Hid (Below w.heap.size w wr)) (fun _ kv _ => N - (intOf kv).toNat)
 case atStart => exact ⟨0, some ⟨w.heap.size, 0, none⟩, 0, [], Nat.zero_le _, rfl, rfl, Nat.le_refl _, Lib.hid rfl, Lib.hid (own_lit_at w 88 2 rfl (Nat.le_refl _)), Lib.hid (ext_alloc (ext_refl _) _)⟩
 case round =>
  obtain ⟨k, A, c, L, hk, rfl, rfl, hLk, HL, HO, HX⟩ := hrel
  obtain ⟨W, hW⟩ : ∃ y : World, y = wr := ⟨_, rfl⟩
  subst hW
  have hs1 : wrap64 (5 * (k : Int)) = 5 * (k : Int) := by unfold wrap64; omega
  have hs2 : wrap64 (v - 5 * (k : Int)) = v - 5 * (k : Int) := by unfold wrap64; omega
  by_cases hlt : k < N
  · have hle : (k : Int) ≤ u := by omega
    cases hin : inB (v - 5 * (k : Int)) 0 lo
    · have HL2 := Lib.hid (show formsN lo v (k + 1) = L by rw [formsN, HL.out, hin]; simp)
      go_wp2_with fail
      refine (l1In_c (v - 5 * (k : Int)) 0 lo _ _ rfl).mono ?_
      rw [hin]
      rintro e wz ⟨rfl, rfl⟩
      go_wp2
      go_roundw
      case rel => exact ⟨k + 1, A, c, L, by omega, by go_num, rfl, by omega, HL2, HO, HX⟩
      case measure => simp [intOf]; omega
    · have HL2 := Lib.hid (show formsN lo v (k + 1) = L ++ [⟨(k : Int), v - 5 * (k : Int)⟩] by rw [formsN, HL.out, hin]; simp)
      have hbV := HX.out.size
      have m1 : L.length + 1 ≤ maxLen := by unfold maxLen; omega
      have m2 : (L.length + 1) * 16 ≤ 140737488355328 := by omega
      go_wp2_with fail
      refine (l1In_c (v - 5 * (k : Int)) 0 lo _ _ rfl).mono ?_
      rw [hin]
      rintro e wz ⟨rfl, rfl⟩
      go_wp2_with (at_builtin; refine wpList_append_own _ rfl (.tmp 21) (.tmp 28) 22 rfl w.heap.size 88 i0 _ 2 16 Try.underlying22 hi hz0 hz1 hz2 rfl (by decide) (.slice A L.length c) L.length (rowsV2 L) rfl (HO.out.alloc (.cells #[.int .i64 (k : Int), .int .i64 (v - 5 * (k : Int))] 88)) _ 1 1 [.int .i64 (k : Int), .int .i64 (v - 5 * (k : Int))] rfl rfl (cells_new_at W [.int .i64 (k : Int), .int .i64 (v - 5 * (k : Int))] 88 rfl) (by simp [Value.oneCell']) m1 m2 (Nat.le_trans hbV (by simp)) ?_; intro v9 w6 hown hgrow _; obtain ⟨A4, c4, rfl⟩ := own_shape hown; have HGR := Lib.hid hgrow; have HOW := Lib.hid hown; clear hown hgrow)
      have HB6 := Lib.hid (below_grown' (HO.out.alloc (.cells #[.int .i64 (k : Int), .int .i64 (v - 5 * (k : Int))] 88)) (Nat.le_refl _) (ext_alloc HX.out (.cells #[.int .i64 (k : Int), .int .i64 (v - 5 * (k : Int))] 88)) HGR.out)
      have HO6 := Lib.hid (show w6.ownsRow w.heap.size 88 2 (.slice A4 (L.length + 1) c4) (L.length + 1) (rowsV2 (L ++ [⟨(k : Int), v - 5 * (k : Int)⟩])) by have h9 := HOW.out; simpa [rowsV2, R2.cells] using h9)
      go_wp2
      go_roundw
      case rel => exact ⟨k + 1, A4, c4, L ++ [⟨(k : Int), v - 5 * (k : Int)⟩], by omega, by go_num, by rw [List.length_append]; rfl, by rw [List.length_append]; show L.length + 1 ≤ k + 1; omega, HL2, by rw [List.length_append]; exact HO6, HB6⟩
      case measure => simp [intOf]; omega
  · obtain rfl : N = k := by omega
    have hle : ¬ (N : Int) ≤ u := by omega
    go_wp2
    go_ret
    rw [hE.out, HL.out]
    exact ⟨A, c, rfl, HO.out, HX.out⟩

end Go.Proofs.Ytnadafopgokleaa
namespace Go.Proofs.Ytnadafopgokleaa
open Go.RowKit
set_option linter.unusedVariables false
set_option linter.unusedSimpArgs false
def cmpP : List R2 → List R2 → Int
 | x :: xs, y :: ys => if x.a - y.a ≠ 0 then x.a - y.a else if x.b - y.b ≠ 0 then x.b - y.b else cmpP xs ys
 | _, _ => 0
theorem cmpP_step {l l' : List R2} {k : Nat} {r s : R2} (hr : l[k]? = some r) (hs : l'[k]? = some s) : cmpP (l.drop k) (l'.drop k) = if r.a - s.a ≠ 0 then r.a - s.a else if r.b - s.b ≠ 0 then r.b - s.b else cmpP (l.drop (k + 1)) (l'.drop (k + 1)) := by
 obtain ⟨h1, h1'⟩ := List.getElem?_eq_some_iff.1 hr
 obtain ⟨h2, h2'⟩ := List.getElem?_eq_some_iff.1 hs
 rw [List.drop_eq_getElem_cons h1, List.drop_eq_getElem_cons h2, h1', h2', cmpP]
theorem cmpP_end (l l' : List R2) {k : Nat} (h : l.length ≤ k) : cmpP (l.drop k) (l'.drop k) = 0 := by
 rw [List.drop_eq_nil_of_le h]
 rfl
theorem cmpP_zero : ∀ (l l' : List R2), l.length = l'.length → cmpP l l' = 0 → l = l' := by
 intro l
 induction l with
 | nil => intro l' h _; cases l' with
   | nil => rfl
   | cons y ys => cases h
 | cons x xs ih =>
   intro l' h hz
   cases l' with
   | nil => cases h
   | cons y ys =>
     rw [cmpP] at hz
     obtain ⟨xa, xb⟩ := x
     obtain ⟨ya, yb⟩ := y
     dsimp only at hz
     split at hz
     · omega
     · split at hz
       · omega
       · rw [ih ys (by simpa using h) hz, show xa = ya by omega, show xb = yb by omega]
theorem cmpP_self (l : List R2) : cmpP l l = 0 := by
 induction l with
 | nil => rfl
 | cons x xs ih => rw [cmpP, if_neg (by omega), if_neg (by omega), ih]
def smallR (l : List R2) : Prop := ∀ (k : Nat) (r : R2), l[k]? = some r → (-1000 ≤ r.a ∧ r.a ≤ 1000) ∧ -1000 ≤ r.b ∧ r.b ≤ 1000
set_option maxRecDepth 100000 in
set_option maxHeartbeats 4000000 in
theorem comparePairs_any (A B : Option Addr) (n c d : Nat) (l l' : List R2) (w : World) (hn : n ≤ 1048576) (h1 : smallR l) (h2 : smallR l') (h : Reads w w.heap.size 2 A n (rowsV2 l)) (h' : Reads w w.heap.size 2 B n (rowsV2 l')) :
 Calls Try.prog 92 #[.slice A n c, .slice B n d] w fun e w' => e = .returned (.int .i64 (cmpP l l')) ∧ Below w.heap.size w w' := by
 have hl := rows_len2 h
 have hl' := rows_len2 h'
 have H := Lib.hid h
 have H' := Lib.hid h'
 have H1 := Lib.hid h1
 have H2 := Lib.hid h2
 have HL := Lib.hid hl
 have HL' := Lib.hid hl'
 obtain ⟨Z, hZ⟩ : ∃ o9, cmpP l l' = o9 := ⟨_, rfl⟩
 rw [hZ]
 have HZ := Lib.hid hZ
 clear h h' hl hl' h1 h2 hZ
 go_enter Try.func92, Try.ntmps92
 go_wp2
 go_loopw [9] (fun i wr => ∃ k : Nat, k ≤ n ∧ i = .int .i64 k ∧ Hid (Z = cmpP (l.drop k) (l'.drop k)) ∧ Hid (Below w.heap.size w wr)) (fun i _ => n - (intOf i).toNat)
 case atStart => exact ⟨0, Nat.zero_le _, rfl, Lib.hid HZ.out.symm, Lib.hid (ext_refl _)⟩
 case round =>
  obtain ⟨k, hk, rfl, HE, HW⟩ := hrel
  obtain ⟨W0, hW0⟩ : ∃ y : World, y = wr := ⟨_, rfl⟩
  subst hW0
  by_cases hlt : k < n
  · obtain ⟨r, hr⟩ := list_split (l := l) (k := k) (by rw [HL.out]; exact hlt)
    obtain ⟨s, hs⟩ := list_split (l := l') (k := k) (by rw [HL'.out]; exact hlt)
    have hst := Lib.hid (cmpP_step hr hs)
    obtain ⟨ba, oa, rfl, hba, hca⟩ := rows_cmp (H.out.ext HW.out (Nat.le_refl _)) hr
    obtain ⟨bb, ob, rfl, hbb, hcb⟩ := rows_cmp (H'.out.ext HW.out (Nat.le_refl _)) hs
    have ca0 := hca 0 (by omega)
    have ca1 := hca 1 (by omega)
    have cb0 := hcb 0 (by omega)
    have cb1 := hcb 1 (by omega)
    have b1 := H1.out k r hr
    have b2 := H2.out k s hs
    obtain ⟨ra, rb⟩ := r
    obtain ⟨sa, sb⟩ := s
    rw [show cmp ⟨ra, rb⟩ 0 = ra from rfl, Nat.add_zero] at ca0
    rw [show cmp ⟨ra, rb⟩ 1 = rb from rfl] at ca1
    rw [show cmp ⟨sa, sb⟩ 0 = sa from rfl, Nat.add_zero] at cb0
    rw [show cmp ⟨sa, sb⟩ 1 = sb from rfl] at cb1
    dsimp only at b1 b2 hst
    clear hr hs hca hcb
    have kk1 : (k : Int) < (n : Int) := by omega
    have kk0 : (0 : Int) ≤ (k : Int) := by omega
    have hsz := HW.out.size
    have hba2 : ba < W0.heap.size := by omega
    have hbb2 : bb < W0.heap.size := by omega
    by_cases e0 : ra = sa
    · have d0 : (ra != sa) = false := by simp [e0]
      by_cases e1 : rb = sb
      · have d1 : (rb != sb) = false := by simp [e1]
        have HN := Lib.hid (show Z = cmpP (l.drop (k + 1)) (l'.drop (k + 1)) by rw [HE.out, hst.out, if_neg (by omega), if_neg (by omega)])
        clear e0 e1 b1 b2
        go_wp2
        refine wp_loop_rounds 3 ?_
        rw [rounds_succ]
        go_wp2
        go_region
        go_wp2
        rw [rounds_succ]
        go_wp2
        go_region
        go_wp2
        rw [rounds_succ]
        go_wp2
        go_roundw
        case rel => exact ⟨k + 1, by omega, by go_num, HN, Lib.hid HW.out.drew.drew⟩
        case measure => simp [intOf]; omega
      · have d1 : (rb != sb) = true := by simp [e1]
        have HN := Lib.hid (show Z = rb - sb by rw [HE.out, hst.out, if_neg (by omega), if_pos (by omega)])
        clear e0 e1
        go_wp2
        refine wp_loop_rounds 3 ?_
        rw [rounds_succ]
        go_wp2
        go_region
        go_wp2
        rw [rounds_succ]
        go_wp2
        go_region
        go_wp2
        go_region
        go_wp2
        go_ret
        obtain rfl := HN.out; exact ⟨rfl, HW.out.drew.drew.drew⟩
    · have d0 : (ra != sa) = true := by simp [e0]
      have HN := Lib.hid (show Z = ra - sa by rw [HE.out, hst.out, if_pos (by omega)])
      clear e0
      go_wp2
      refine wp_loop_rounds 3 ?_
      rw [rounds_succ]
      go_wp2
      go_region
      go_wp2
      go_region
      go_wp2
      go_ret
      obtain rfl := HN.out; exact ⟨rfl, HW.out.drew.drew⟩
  · obtain rfl : k = n := by omega
    have HN := Lib.hid (show Z = 0 by rw [HE.out]; exact cmpP_end l l' (by rw [HL.out]; omega))
    go_wp2
    go_ret
    obtain rfl := HN.out; exact ⟨rfl, HW.out⟩
end Go.Proofs.Ytnadafopgokleaa
namespace Go.Proofs.Ytnadafopgokleaa
open Go.RowKit
set_option linter.unusedVariables false
set_option linter.unusedSimpArgs false
structure Way where
 l : List R2
 m : Int
 b : Int
 ok : Bool
def Way.val (A : Option Addr) (c : Nat) (x : Way) : Value := .agg #[.slice A x.l.length c, .int .i64 x.m, .int .i64 x.b, .bool x.ok]
def nearP (x y : Way) : Bool := if x.ok != y.ok then x.ok else if x.ok = false then false else if x.m ≠ y.m then decide (x.m < y.m) else if x.b ≠ y.b then decide (x.b < y.b) else decide (cmpP x.l y.l < 0)
def fewP (x y : Way) : Bool := if x.ok != y.ok then x.ok else x.ok && decide (x.b < y.b)
set_option maxRecDepth 100000 in
set_option maxHeartbeats 4000000 in
theorem nearer_any (A1 A2 : Option Addr) (c1 c2 : Nat) (l1 l2 : List R2) (m1 m2 b1 b2 : Int) (o1 o2 : Bool) (w : World) (hn : l1.length ≤ 1048576) (hl : o1 = true → o2 = true → l2.length = l1.length) (h1 : smallR l1) (h2 : smallR l2) (h : Reads w w.heap.size 2 A1 l1.length (rowsV2 l1)) (h' : Reads w w.heap.size 2 A2 l2.length (rowsV2 l2)) :
 Calls Try.prog 66 #[.agg #[.slice A1 l1.length c1, .int .i64 m1, .int .i64 b1, .bool o1], .agg #[.slice A2 l2.length c2, .int .i64 m2, .int .i64 b2, .bool o2]] w fun e w' => e = .returned (.bool (nearP ⟨l1, m1, b1, o1⟩ ⟨l2, m2, b2, o2⟩)) ∧ Below w.heap.size w w' := by
 have hbx := Lib.hid (ext_alloc (ext_alloc (ext_refl w) (.cells #[.slice A1 l1.length c1, .int .i64 m1, .int .i64 b1, .bool o1] 60)) (.cells #[.slice A2 l2.length c2, .int .i64 m2, .int .i64 b2, .bool o2] 60))
 obtain ⟨n1, hn1⟩ : ∃ o9, l1.length = o9 := ⟨_, rfl⟩
 obtain ⟨n2, hn2⟩ : ∃ o9, l2.length = o9 := ⟨_, rfl⟩
 rw [hn1] at hn hl h hbx ⊢
 rw [hn2] at hl h' hbx ⊢
 have H := Lib.hid h
 have H' := Lib.hid h'
 clear h h' hn1 hn2
 rcases o1 with _ | _
 · rcases o2 with _ | _
   · go_enter Try.func66, Try.ntmps66
     go_wp2
     go_ret
     exact ⟨rfl, hbx.out⟩
   · go_enter Try.func66, Try.ntmps66
     go_wp2
     go_ret
     exact ⟨rfl, hbx.out⟩
 · rcases o2 with _ | _
   · go_enter Try.func66, Try.ntmps66
     go_wp2
     go_ret
     exact ⟨rfl, hbx.out⟩
   · obtain rfl : n2 = n1 := hl rfl rfl
     have HCP := Lib.hid (fun (w : World) h h' => comparePairs_any A1 A2 n2 c1 c2 l1 l2 w hn h1 h2 h h')
     clear hl h1 h2
     by_cases hm : m1 = m2
     · have km : (m1 != m2) = false := by simp [hm]
       by_cases hb : b1 = b2
       · have kb : (b1 != b2) = false := by simp [hb]
         rw [show nearP ⟨l1, m1, b1, true⟩ ⟨l2, m2, b2, true⟩ = decide (cmpP l1 l2 < 0) by simp [nearP, hm, hb]]
         obtain ⟨Z, hZ⟩ : ∃ o9, cmpP l1 l2 = o9 := ⟨_, rfl⟩
         rw [hZ] at HCP ⊢
         clear hm hb hZ
         go_enter Try.func66, Try.ntmps66
         go_wp2_with fail
         refine (HCP.out _ (rdx H.out hbx.out) (rdx H'.out hbx.out)).mono ?_
         rintro e w1 ⟨rfl, hb1⟩
         go_wp2
         go_ret
         exact ⟨rfl, ext_trans hbx.out hb1⟩
       · have kb : (b1 != b2) = true := by simp [hb]
         rw [show nearP ⟨l1, m1, b1, true⟩ ⟨l2, m2, b2, true⟩ = decide (b1 < b2) by simp [nearP, hm, hb]]
         clear hm hb
         go_enter Try.func66, Try.ntmps66
         go_wp2
         go_ret
         exact ⟨rfl, hbx.out⟩
     · have km : (m1 != m2) = true := by simp [hm]
       rw [show nearP ⟨l1, m1, b1, true⟩ ⟨l2, m2, b2, true⟩ = decide (m1 < m2) by simp [nearP, hm]]
       clear hm
       go_enter Try.func66, Try.ntmps66
       go_wp2
       go_ret
       exact ⟨rfl, hbx.out⟩
end Go.Proofs.Ytnadafopgokleaa
namespace Go.Proofs.Ytnadafopgokleaa
open Go.RowKit
set_option linter.unusedVariables false
set_option linter.unusedSimpArgs false
end Go.Proofs.Ytnadafopgokleaa
namespace Go.Proofs.Ytnadafopgokleaa
open Go.RowKit
set_option linter.unusedVariables false
set_option linter.unusedSimpArgs false
def playS (u lo : Int) (l : List R2) (ms : List R3) : Option (List R2) := ms.foldl (fun o m => o.bind fun x => if mvB u lo x m = true then some (mvL x m) else none) (some l)
def playF (u lo : Int) (l : List R2) (ms : List R3) : Int × Int × List R2 := match playS u lo l ms with | some x => (u, lo, x) | none => (0, 0, [])
theorem play_take {u lo : Int} {l : List R2} {ms : List R3} {k : Nat} {x : List R2} {m : R3} (h : playS u lo l (ms.take k) = some x) (hm : ms[k]? = some m) : playS u lo l (ms.take (k + 1)) = if mvB u lo x m = true then some (mvL x m) else none := by
 unfold playS at h ⊢
 rw [List.take_add_one, hm]
 simp [List.foldl_append, h]
theorem fold_none {u lo : Int} (ms : List R3) : ms.foldl (fun (o : Option (List R2)) m => o.bind fun x => if mvB u lo x m = true then some (mvL x m) else none) none = none := by
 induction ms with
 | nil => rfl
 | cons m ms ih => exact ih
theorem play_none {u lo : Int} {l : List R2} {ms : List R3} {k : Nat} (h : playS u lo l (ms.take k) = none) : playF u lo l ms = (0, 0, []) ∧ (playS u lo l ms).isSome = false := by
 have e : playS u lo l ms = none := by
  unfold playS at h ⊢
  conv => lhs; rw [← List.take_append_drop k ms]
  rw [List.foldl_append, h]
  exact fold_none _
 unfold playF
 rw [e]
 exact ⟨rfl, rfl⟩
theorem mvB_fr {u lo : Int} {x : List R2} {m : R3} (h : mvB u lo x m = true) : frB u lo (mvL x m) = true := by
 unfold mvB at h
 simp only [Bool.and_eq_true] at h
 exact h.2
set_option maxRecDepth 100000 in
set_option maxHeartbeats 4000000 in
theorem played_any (u lo : Int) (A : Option Addr) (n c : Nat) (l : List R2) (B : Option Addr) (k cb : Nat) (ms : List R3) (w : World) (hf : frB u lo l = true) (hok : ms.all okM = true) (hk : k ≤ 1048576) (h : Reads w w.heap.size 2 A n (rowsV2 l)) (hm : Reads w w.heap.size 3 B k (rowsV3 ms)) :
 Calls Try.prog 48 #[frV u lo A n c, .slice B k cb] w (RetFrB w (playF u lo l ms) (playS u lo l ms).isSome) := by
 have hl := rows_len2 h
 have hkl := rows_len3 hm
 have H := Lib.hid h
 have HM := Lib.hid hm
 have BF0 := Lib.hid ((Blk.born w #[.int .i64 u, .int .i64 lo, .slice A n c] 28 (H := w.heap.size) rfl).al (.cells #[.int .i64 0, .int .i64 0, .slice none 0 0] 28))
 have BR0 := Lib.hid (Blk.born (w.alloc (.cells #[.int .i64 u, .int .i64 lo, .slice A n c] 28)) #[.int .i64 0, .int .i64 0, .slice none 0 0] 28 (H := w.heap.size + 1) (by simp))
 have hbx := Lib.hid (ext_alloc (ext_alloc (ext_refl w) (.cells #[.int .i64 u, .int .i64 lo, .slice A n c] 28)) (.cells #[.int .i64 0, .int .i64 0, .slice none 0 0] 28))
 have hle1 := Nat.le_succ w.heap.size
 clear h hm
 obtain ⟨_, _, hn1, hn8⟩ := frB_head hf
 rw [hl] at hn1 hn8
 have hn : n ≤ 1048576 := by omega
 have HKL := Lib.hid hkl
 have HF := Lib.hid hf
 have HOK := Lib.hid hok
 have ISO := Lib.hid (show l.length = n from hl)
 obtain ⟨Y, hY⟩ : ∃ Y, Y = playF u lo l ms := ⟨_, rfl⟩
 obtain ⟨ok, hok2⟩ : ∃ ok, ok = (playS u lo l ms).isSome := ⟨_, rfl⟩
 rw [← hY, ← hok2]
 have HY := Lib.hid hY
 have HO2 := Lib.hid hok2
 clear hkl hl hf hok hY hok2
 go_enter Try.func48, Try.ntmps48
 have BF1 := BF0
 have BR1 := BR0
 have hb2 := hbx
 go_wp2_with fail
 refine (own_fr u lo A n c l _ hn1 hn (rdx H.out hb2.out)).mono ?_
 rintro e w2 ⟨h, cr, rfl, hr2, hb3⟩
 have hr2 := Lib.hid (own_base (base' := w.heap.size) hr2 hb2.out.size)
 have BR2 := Lib.hid (BR1.out.ext hb3)
 have hb4 := Lib.hid (ext_trans hb2.out hb3)
 have hRl := BR2.out.lt
 obtain ⟨N, hN⟩ : ∃ N, N = w2.heap.size := ⟨_, rfl⟩
 obtain ⟨W, hW⟩ : ∃ W, W = w2.alloc (.cells #[.int .i64 u, .int .i64 lo, .slice (some ⟨h, 0, none⟩) n cr] 28) := ⟨_, rfl⟩
 have BNW := Lib.hid (show Blk W N 28 #[.int .i64 u, .int .i64 lo, .slice (some ⟨h, 0, none⟩) n cr] by rw [hW]; exact Blk.born _ _ _ hN)
 have BRW := Lib.hid (show Blk W (w.heap.size + 1) 28 #[.int .i64 0, .int .i64 0, .slice none 0 0] by rw [hW]; exact BR2.out.al _)
 have hrW := Lib.hid (show W.ownsRow w.heap.size 88 2 (.slice (some ⟨h, 0, none⟩) n cr) n (rowsV2 l) by rw [hW]; exact hr2.out.alloc _)
 have hbW := Lib.hid (show Below w.heap.size w W by rw [hW]; exact ext_alloc hb4.out _)
 have HWN := Lib.hid (And.intro hW hN)
 have hneNR : N ≠ w.heap.size + 1 := by omega
 have hNle : w.heap.size ≤ N := by omega
 clear hb3 hN hW hRl
 go_wp2
 rw [← HWN.out.2, ← HWN.out.1]
 clear HWN
 go_loopw [15] (fun i wr => ∃ (j : Nat) (x : List R2) (A' : Option Addr) (c' : Nat), j ≤ k ∧ i = .int .i64 j ∧ x.length = n ∧ Hid (playS u lo l (ms.take j) = some x) ∧ Hid (frB u lo x = true) ∧ Hid (wr.ownsRow w.heap.size 88 2 (.slice A' n c') n (rowsV2 x)) ∧ Hid (Blk wr N 28 #[.int .i64 u, .int .i64 lo, .slice A' n c']) ∧ Hid (Blk wr (w.heap.size + 1) 28 #[.int .i64 0, .int .i64 0, .slice none 0 0]) ∧ Hid (Below w.heap.size w wr)) (fun i _ => k - (intOf i).toNat)
 case atStart => exact ⟨0, l, some ⟨h, 0, none⟩, cr, Nat.zero_le _, rfl, ISO.out, Lib.hid rfl, HF, hrW, BNW, BRW, hbW⟩
 case round =>
  obtain ⟨j, x, A', c', hj, rfl, hxl, hps, hfx, hrr, BNr, BRr, hbr⟩ := hrel
  obtain ⟨p0, p1, p2⟩ := BNr.out.q3
  have hNl := BNr.out.lt
  by_cases hlt : j < k
  · obtain ⟨m, hm⟩ := list_split (l := ms) (k := j) (by rw [HKL.out]; exact hlt)
    obtain ⟨b, o, rfl, hbb, e0, e1, e2⟩ := rows_at3 (rdx HM.out hbr.out) hm
    have hokm : okM m = true := by have := HOK.out; rw [List.all_eq_true] at this; exact this m (List.mem_of_getElem? hm)
    have hstep := play_take hps.out hm
    have HMV := fun (w : World) h => moved_any u lo A' n c' x m w hfx.out hokm h
    have hmvl : (mvL x m).length = n := by rw [mvL_len]; exact hxl
    cases hmb : mvB u lo x m
    · rw [hmb] at HMV
      rw [show mvF u lo x m = (0, 0, []) by unfold mvF; rw [hmb]; rfl] at HMV
      have HMVh := Lib.hid HMV
      have hnone := Lib.hid (play_none (k := j + 1) (by rw [hstep, hmb]; rfl))
      clear HMV hmb hstep hm
      go_wp2_with fail
      refine (HMVh.out _ (Reads.of_own (hrr.out.alloc _))).mono ?_
      rintro e w5 ⟨A1, c1, rfl, hr1, hb⟩
      have BR5 := Lib.hid ((BRr.out.al _).ext hb)
      have hb5 := Lib.hid (ext_trans (ext_alloc hbr.out _) hb)
      obtain ⟨s0, s1, s2⟩ := BR5.out.q3
      obtain ⟨z0, z1, z2⟩ := BR5.out.z3
      have hRl := BR5.out.lt
      clear hb hr1
      have hne1 : ¬ w5.heap.size = w.heap.size + 1 := by omega
      go_wp2
      refine bodyPost_ret (v := .tuple #[frV 0 0 none 0 0, .bool false]) (by simp [results, Try.results48, go_sem, *]) rfl ?_
      rw [HY.out, HO2.out, hnone.out.2, hnone.out.1]
      refine ⟨none, 0, rfl, World.ownsRow_nil _ _ _ _, ?_⟩
      repeat (first | (with_reducible exact hb5.out) | (with_reducible refine ext_alloc ?_ _) | (with_reducible refine fill_below ?_ (Nat.le_succ _)))
    · rw [hmb] at HMV
      rw [show mvF u lo x m = (u, lo, mvL x m) by unfold mvF; rw [if_pos hmb]] at HMV
      unfold RetFrB at HMV
      dsimp only at HMV
      rw [hmvl] at HMV
      have HMVh := Lib.hid HMV
      have hnext := Lib.hid (show playS u lo l (ms.take (j + 1)) = some (mvL x m) by rw [hstep, if_pos hmb])
      have hfn := Lib.hid (mvB_fr hmb)
      clear HMV hmb hstep hm
      go_wp2_with fail
      refine (HMVh.out _ (Reads.of_own (hrr.out.alloc _))).mono ?_
      rintro e w5 ⟨A1, c1, rfl, hr1, hb⟩
      have hr5 := Lib.hid (own_base (base' := w.heap.size) hr1 (ext_alloc hbr.out _).size)
      have BR5 := Lib.hid ((BRr.out.al _).ext hb)
      have BN5 := Lib.hid ((BNr.out.al _).ext hb)
      have hb5 := Lib.hid (ext_trans (ext_alloc hbr.out _) hb)
      obtain ⟨s0, s1, s2⟩ := BN5.out.q3
      obtain ⟨z0, z1, z2⟩ := BN5.out.z3
      have hRl := BN5.out.lt
      have hnn := Lib.hid (own_nbT hr5.out BN5.out (by decide))
      clear hb hr1 p0 p1 p2
      have hne1 : ¬ w5.heap.size = N := by omega
      have hne2 : ¬ N = w5.heap.size := by omega
      go_wp2
      go_roundw
      case rel =>
       refine ⟨j + 1, mvL x m, A1, c1, by omega, by go_num, hmvl, hnext, hfn, Lib.hid ?_, Lib.hid ?_, Lib.hid ?_, Lib.hid ?_⟩
       · repeat (first | (with_reducible exact hr5.out) | (with_reducible refine World.ownsRow.alloc ?_ _) | (with_reducible refine fill_own' ?_ hnn.out))
       · repeat (first | (with_reducible refine Blk.al ?_ _) | (with_reducible exact fr_put BN5.out) | (with_reducible exact fr_put (BN5.out.al _)))
       · repeat (first | (with_reducible exact BR5.out) | (with_reducible refine Blk.al ?_ _) | (with_reducible refine fill_far ?_ hneNR))
       · repeat (first | (with_reducible exact hb5.out) | (with_reducible refine ext_alloc ?_ _) | (with_reducible refine fill_below ?_ hNle))
      case measure => simp [intOf]; omega
  · obtain rfl : j = k := by omega
    have hsome := Lib.hid (show playS u lo l ms = some x by rw [← hps.out, List.take_of_length_le (by rw [HKL.out]; exact Nat.le_refl _)])
    obtain ⟨s0, s1, s2⟩ := BRr.out.q3
    obtain ⟨z0, z1, z2⟩ := BRr.out.z3
    have hRl := BRr.out.lt
    go_wp2
    refine bodyPost_ret (v := .tuple #[frV u lo A' n c', .bool true]) (by simp [results, Try.results48, go_sem, *]) rfl ?_
    rw [HY.out, HO2.out, hsome.out, show playF u lo l ms = (u, lo, x) by unfold playF; rw [hsome.out]]
    refine ⟨A', c', by dsimp only; rw [hxl]; rfl, ?_, fill_below hbr.out (Nat.le_succ _)⟩
    dsimp only
    rw [hxl]
    exact fill_own' hrr.out (own_nbT hrr.out BRr.out (by decide))
end Go.Proofs.Ytnadafopgokleaa
namespace Go.Proofs.Ytnadafopgokleaa
open Go.RowKit
set_option linter.unusedVariables false
set_option linter.unusedSimpArgs false
theorem hv {p q : Prop} (h : p) (k : p → q) : q := k h
def wasteOk (u lo : Int) (l : List R2) (ms : List R3) : Bool := frB u lo l && rcdB ms && (playS u lo l ms).isSome
def wasteV (u lo : Int) (l : List R2) (ms : List R3) : Int := if wasteOk u lo l ms = true then beads ms - beads (btw l ((playS u lo l ms).getD []) l.length) else 0
theorem rec_small {ms : List R3} (h : rcdB ms = true) : smallM ms := by
 intro m hm
 unfold rcdB mvsB at h
 simp only [Bool.and_eq_true, List.all_eq_true] at h
 have := okM_iff.1 (h.2.2 m hm)
 omega
theorem play_inv {u lo : Int} {l : List R2} {ms : List R3} (hf : frB u lo l = true) : ∀ x, playS u lo l ms = some x → frB u lo x = true ∧ x.length = l.length := by
 unfold playS
 have key : ∀ (ms : List R3) (o : Option (List R2)), (∀ x, o = some x → frB u lo x = true ∧ x.length = l.length) → ∀ x, ms.foldl (fun o m => o.bind fun x => if mvB u lo x m = true then some (mvL x m) else none) o = some x → frB u lo x = true ∧ x.length = l.length := by
  intro ms
  induction ms with
  | nil => intro o ho x hx; exact ho x hx
  | cons m ms ih =>
    intro o ho x hx
    refine ih _ ?_ x hx
    intro y hy
    rcases o with _ | z
    · cases hy
    · simp only [Option.bind_some] at hy
      split at hy
      · rename_i hmv
        injection hy with hy
        subst hy
        exact ⟨mvB_fr hmv, by rw [mvL_len]; exact (ho z rfl).2⟩
      · cases hy
 exact key ms (some l) (fun x hx => by injection hx with hx; subst hx; exact ⟨hf, rfl⟩)
theorem play_fr {u lo : Int} {l x : List R2} {ms : List R3} (hf : frB u lo l = true) (h : playS u lo l ms = some x) : frB u lo x = true := (play_inv hf x h).1
theorem play_len {u lo : Int} {l x : List R2} {ms : List R3} (h : playS u lo l ms = some x) : x.length = l.length := by
 unfold playS at h
 have key : ∀ (ms : List R3) (o : Option (List R2)), (∀ x, o = some x → x.length = l.length) → ∀ x, ms.foldl (fun o m => o.bind fun x => if mvB u lo x m = true then some (mvL x m) else none) o = some x → x.length = l.length := by
  intro ms
  induction ms with
  | nil => intro o ho x hx; exact ho x hx
  | cons m ms ih =>
    intro o ho x hx
    refine ih _ ?_ x hx
    intro y hy
    rcases o with _ | z
    · cases hy
    · simp only [Option.bind_some] at hy
      split at hy
      · injection hy with hy
        subst hy
        rw [mvL_len]; exact ho z rfl
      · cases hy
 exact key ms (some l) (fun x hx => by injection hx with hx; subst hx; rfl) x h
end Go.Proofs.Ytnadafopgokleaa
namespace Go.Proofs.Ytnadafopgokleaa
open Go.RowKit
set_option linter.unusedVariables false
set_option linter.unusedSimpArgs false
def zeroW : Way := ⟨[], 0, 0, false⟩
def valT (n : Int) (j : Nat) : Int := n % 10 + 10 * (j : Int)
def valB (n : Int) (j : Nat) : Bool := decide (valT n j ≤ 15) && decide (valT n j ≤ n)
def wayNext (x : Way) (k : Nat) (rd f : R2) : Way := ⟨x.l ++ [f], x.m + (mvR (k : Int) rd f).length, x.b + beads (mvR (k : Int) rd f), true⟩
def wayStep (bt : Way → Way → Bool) (x : Way) (k : Nat) (rd : R2) (o : Way) (f : R2) : Way := if bt (wayNext x k rd f) o = true then wayNext x k rd f else o
def wayFold (bt : Way → Way → Bool) (x : Way) (k : Nat) (rd : R2) (o : Way) (fs : List R2) : Way := fs.foldl (wayStep bt x k rd) o
def bestSt (bt : Way → Way → Bool) (u lo : Int) (l : List R2) (r : Nat) (B : Int → Way) (n : Int) (j : Nat) (o : Way) : Way :=
 if valB n j = true then (if (B ((n - valT n j) / 10)).ok = true then wayFold bt (B ((n - valT n j) / 10)) r (l.getD r ⟨0, 0⟩) o (forms u lo (valT n j)) else o) else o
def bestTo (bt : Way → Way → Bool) (u lo : Int) (l : List R2) (r : Nat) (B : Int → Way) (n : Int) : Nat → Way
 | 0 => zeroW
 | j + 1 => bestSt bt u lo l r B n j (bestTo bt u lo l r B n j)
def bestP (bt : Way → Way → Bool) (u lo : Int) (l : List R2) : Nat → Int → Way
 | 0, n => ⟨[], 0, 0, n == 0⟩
 | r + 1, n => bestTo bt u lo l r (bestP bt u lo l r) n 2
theorem valB_no {n : Int} {j : Nat} (hn : 0 ≤ n) (h : valB n j = false) : valB n (j + 1) = false := by
 unfold valB valT at h ⊢
 simp only [Bool.and_eq_false_iff, decide_eq_false_iff_not] at h ⊢
 omega
theorem bestTo_stop {bt : Way → Way → Bool} {u lo : Int} {l : List R2} {r : Nat} {B : Int → Way} {n : Int} {j : Nat} (hn : 0 ≤ n) (hj : j ≤ 2) (h : valB n j = false) : bestTo bt u lo l r B n 2 = bestTo bt u lo l r B n j := by
 have e : ∀ k, valB n k = false → bestTo bt u lo l r B n (k + 1) = bestTo bt u lo l r B n k := fun k hk => by
  rw [bestTo, bestSt, hk]
  rfl
 rcases (show j = 0 ∨ j = 1 ∨ j = 2 by omega) with rfl | rfl | rfl
 · rw [e 1 (valB_no hn h), e 0 h]
 · exact e 1 h
 · rfl
/-- what a way of so many rods satisfies -/
def GoodW (u lo : Int) (r : Nat) (x : Way) : Prop := (x.ok = true → x.l.length = r) ∧ x.l.length ≤ r ∧ (∀ y ∈ x.l, 0 ≤ y.a ∧ y.a ≤ u ∧ 0 ≤ y.b ∧ y.b ≤ lo) ∧ 0 ≤ x.m ∧ x.m ≤ 2 * (r : Int) ∧ 0 ≤ x.b ∧ x.b ≤ 2000 * (r : Int)
theorem GoodW.zero (u lo : Int) (r : Nat) : GoodW u lo r zeroW := ⟨(fun h => by cases h), Nat.zero_le _, (fun y hy => by cases hy), by simp [zeroW], by simp [zeroW]; omega, by simp [zeroW], by simp [zeroW]; omega⟩
theorem formsN_mem {lo v : Int} {y : R2} : ∀ {k : Nat}, y ∈ formsN lo v k → 0 ≤ y.a ∧ y.a < k ∧ y.b = v - 5 * y.a ∧ 0 ≤ y.b ∧ y.b ≤ lo := by
 intro k
 induction k with
 | zero => intro h; cases h
 | succ k ih =>
   intro h
   rw [formsN] at h
   rcases List.mem_append.1 h with h | h
   · have := ih h
     omega
   · split at h
     · rename_i hb
       have hb := inB_iff.1 hb
       obtain rfl := List.mem_singleton.1 h
       dsimp only
       omega
     · cases h
theorem forms_mem {u lo v : Int} {y : R2} (h : y ∈ forms u lo v) : 0 ≤ y.a ∧ y.a ≤ u ∧ y.b = v - 5 * y.a ∧ 0 ≤ y.b ∧ y.b ≤ lo := by
 have := formsN_mem h
 omega
theorem formsN_len (lo v : Int) : ∀ k, (formsN lo v k).length ≤ k := by
 intro k
 induction k with
 | zero => exact Nat.zero_le _
 | succ k ih => rw [formsN, List.length_append]; split <;> simp <;> omega
theorem GoodW.next {u lo : Int} {l : List R2} (hf : frB u lo l = true) {r : Nat} {x : Way} {f : R2} (hx : GoodW u lo r x) (ho : x.ok = true) (hff : 0 ≤ f.a ∧ f.a ≤ u ∧ 0 ≤ f.b ∧ f.b ≤ lo) : GoodW u lo (r + 1) (wayNext x r (l.getD r ⟨0, 0⟩) f) := by
 obtain ⟨h1, h2, h3, h4, h5, h6, h7⟩ := hx
 have hh := frB_head hf
 have hs := mvR_small (k := (r : Int)) (fr_nine hf r) (s := f) (by omega)
 have hb := beads_bound hs (mvR (r : Int) (l.getD r ⟨0, 0⟩) f).length
 rw [List.take_of_length_le (Nat.le_refl _)] at hb
 have hm := mvR_len (r : Int) (l.getD r ⟨0, 0⟩) f
 unfold wayNext
 refine ⟨fun _ => ?_, ?_, fun y hy => ?_, ?_, ?_, ?_, ?_⟩
 · show (x.l ++ [f]).length = r + 1
   rw [List.length_append, h1 ho]
   rfl
 · show (x.l ++ [f]).length ≤ r + 1
   rw [List.length_append, h1 ho]
   exact Nat.le_refl _
 · rcases List.mem_append.1 hy with hy | hy
   · exact h3 y hy
   · obtain rfl := List.mem_singleton.1 hy
     exact hff
 · show 0 ≤ x.m + _
   omega
 · show x.m + _ ≤ _
   omega
 · show 0 ≤ x.b + _
   omega
 · show x.b + _ ≤ _
   omega
theorem GoodW.fold {bt : Way → Way → Bool} {u lo : Int} {l : List R2} (hf : frB u lo l = true) {r : Nat} {x : Way} (hx : GoodW u lo r x) (ho : x.ok = true) : ∀ (fs : List R2) (o : Way), (∀ f ∈ fs, 0 ≤ f.a ∧ f.a ≤ u ∧ 0 ≤ f.b ∧ f.b ≤ lo) → GoodW u lo (r + 1) o → GoodW u lo (r + 1) (wayFold bt x r (l.getD r ⟨0, 0⟩) o fs) := by
 intro fs
 induction fs with
 | nil => intro o _ h; exact h
 | cons f fs ih =>
   intro o hfs h
   refine ih _ (fun g hg => hfs g (List.mem_cons_of_mem _ hg)) ?_
   unfold wayStep
   split
   · exact GoodW.next hf hx ho (hfs f List.mem_cons_self)
   · exact h
theorem GoodW.best (bt : Way → Way → Bool) {u lo : Int} {l : List R2} (hf : frB u lo l = true) : ∀ (r : Nat) (n : Int), GoodW u lo r (bestP bt u lo l r n) := by
 intro r
 induction r with
 | zero => intro n; exact ⟨fun _ => rfl, Nat.le_refl _, (fun y hy => by cases hy), by simp [bestP], by simp [bestP], by simp [bestP], by simp [bestP]⟩
 | succ r ih =>
   intro n
   have key : ∀ j, GoodW u lo (r + 1) (bestTo bt u lo l r (bestP bt u lo l r) n j) := by
    intro j
    induction j with
    | zero => exact GoodW.zero u lo (r + 1)
    | succ j ij =>
      rw [bestTo, bestSt]
      split
      · split
        · rename_i ho
          exact GoodW.fold hf (ih _) ho _ _ (fun f hff => by have := forms_mem hff; omega) ij
        · exact ij
      · exact ij
   exact key 2
theorem GoodW.to (bt : Way → Way → Bool) {u lo : Int} {l : List R2} (hf : frB u lo l = true) (r : Nat) (n : Int) : ∀ j, GoodW u lo (r + 1) (bestTo bt u lo l r (bestP bt u lo l r) n j) := by
 intro j
 induction j with
 | zero => exact GoodW.zero u lo (r + 1)
 | succ j ij =>
   rw [bestTo, bestSt]
   split
   · split
     · rename_i ho
       exact GoodW.fold hf (GoodW.best bt hf r _) ho _ _ (fun f hff => by have := forms_mem hff; omega) ij
     · exact ij
   · exact ij
theorem GoodW.small {u lo : Int} {l : List R2} (hf : frB u lo l = true) {r : Nat} {x : Way} (hx : GoodW u lo r x) : smallR x.l := by
 intro k y hy
 have hh := frB_head hf
 have := hx.2.2.1 y (List.mem_of_getElem? hy)
 omega
theorem fold_take {bt : Way → Way → Bool} {x : Way} {k : Nat} {rd : R2} {o : Way} {fs : List R2} {i : Nat} {f : R2} (h : fs[i]? = some f) : wayFold bt x k rd o (fs.take (i + 1)) = wayStep bt x k rd (wayFold bt x k rd o (fs.take i)) f := by
 unfold wayFold
 rw [List.take_add_one, h, List.foldl_append]
 rfl
end Go.Proofs.Ytnadafopgokleaa
namespace Go.Proofs.Ytnadafopgokleaa
open Go.RowKit
set_option linter.unusedVariables false
set_option linter.unusedSimpArgs false
theorem info_rows : (Try.prog.info? 22).map (fun i => (i.zero, i.size, i.bytes)) = some (some (.slice none 0 0), 1, 24) := by kernel_rfl
def prodT (rest : List (List R2)) (fs : List R2) : List (List R2) := rest.flatMap (fun t => fs.map (fun f => t ++ [f]))
def tgSt (u lo : Int) (B : Int → List (List R2)) (n : Int) (j : Nat) : List (List R2) := if valB n j = true then prodT (B ((n - valT n j) / 10)) (forms u lo (valT n j)) else []
def tgTo (u lo : Int) (B : Int → List (List R2)) (n : Int) : Nat → List (List R2)
 | 0 => []
 | j + 1 => tgTo u lo B n j ++ tgSt u lo B n j
def tgP (u lo : Int) : Nat → Int → List (List R2)
 | 0, n => if n = 0 then [[]] else []
 | r + 1, n => tgTo u lo (tgP u lo r) n 2
theorem tgTo_stop {u lo : Int} {B : Int → List (List R2)} {n : Int} {j : Nat} (hn : 0 ≤ n) (hj : j ≤ 2) (h : valB n j = false) : tgTo u lo B n 2 = tgTo u lo B n j := by
 have e : ∀ k, valB n k = false → tgTo u lo B n (k + 1) = tgTo u lo B n k := fun k hk => by
  rw [tgTo, tgSt, hk]
  simp
 rcases (show j = 0 ∨ j = 1 ∨ j = 2 by omega) with rfl | rfl | rfl
 · rw [e 1 (valB_no hn h), e 0 h]
 · exact e 1 h
 · rfl
theorem prodT_nil (fs : List R2) : prodT [] fs = [] := rfl
theorem prodT_none (rest : List (List R2)) : prodT rest [] = [] := by
 unfold prodT
 induction rest with
 | nil => rfl
 | cons t rest ih => rw [List.flatMap_cons, ih]; rfl
theorem prodT_len (rest : List (List R2)) (fs : List R2) : (prodT rest fs).length = rest.length * fs.length := by
 unfold prodT
 induction rest with
 | nil => simp
 | cons t rest ih => rw [List.flatMap_cons, List.length_append, ih, List.length_map, List.length_cons, Nat.add_mul]; omega
theorem prodT_take {rest : List (List R2)} {fs : List R2} {i : Nat} {t : List R2} (h : rest[i]? = some t) : prodT (rest.take (i + 1)) fs = prodT (rest.take i) fs ++ fs.map (fun f => t ++ [f]) := by
 unfold prodT
 rw [List.take_add_one, h, List.flatMap_append]
 simp
theorem tgP_mem {u lo : Int} : ∀ (r : Nat) (n : Int), ∀ t ∈ tgP u lo r n, t.length = r ∧ ∀ y ∈ t, 0 ≤ y.a ∧ y.a ≤ u ∧ 0 ≤ y.b ∧ y.b ≤ lo := by
 intro r
 induction r with
 | zero =>
   intro n t ht
   rw [tgP] at ht
   split at ht
   · obtain rfl := List.mem_singleton.1 ht
     exact ⟨rfl, fun y hy => by cases hy⟩
   · cases ht
 | succ r ih =>
   intro n t ht
   have key : ∀ j, ∀ t ∈ tgTo u lo (tgP u lo r) n j, t.length = r + 1 ∧ ∀ y ∈ t, 0 ≤ y.a ∧ y.a ≤ u ∧ 0 ≤ y.b ∧ y.b ≤ lo := by
    intro j
    induction j with
    | zero => intro t ht; cases ht
    | succ j ij =>
      intro t ht
      rw [tgTo] at ht
      rcases List.mem_append.1 ht with ht | ht
      · exact ij t ht
      · unfold tgSt at ht
        split at ht
        · obtain ⟨s, hs, ht⟩ := List.mem_flatMap.1 ht
          obtain ⟨f, hf, rfl⟩ := List.mem_map.1 ht
          obtain ⟨h1, h2⟩ := ih _ s hs
          refine ⟨by rw [List.length_append, h1]; rfl, fun y hy => ?_⟩
          rcases List.mem_append.1 hy with hy | hy
          · exact h2 y hy
          · obtain rfl := List.mem_singleton.1 hy
            have := forms_mem hf
            omega
        · cases ht
   exact key 2 t ht
theorem tgP_len {u lo : Int} (hu : 0 ≤ u ∧ u ≤ 2) : ∀ (r : Nat) (n : Int), (tgP u lo r n).length ≤ 6 ^ r := by
 intro r
 induction r with
 | zero => intro n; rw [tgP]; split <;> simp
 | succ r ih =>
   intro n
   have hf : ∀ v, (forms u lo v).length ≤ 3 := fun v => by have := formsN_len lo v (u + 1).toNat; unfold forms; omega
   have hs : ∀ j, (tgSt u lo (tgP u lo r) n j).length ≤ 3 * 6 ^ r := fun j => by
    unfold tgSt
    split
    · rw [prodT_len, Nat.mul_comm]
      exact Nat.mul_le_mul (hf _) (ih _)
    · exact Nat.zero_le _
   have h0 := hs 0
   have h1 := hs 1
   rw [tgP, tgTo, tgTo, tgTo, List.length_append, List.length_append, Nat.pow_succ]
   simp only [List.length_nil]
   omega
/-- each value is a slice of its own row -/
def Tgs (w : World) (B r : Nat) (vals : List Value) (LL : List (List R2)) : Prop := vals.length = LL.length ∧ ∀ (i : Nat) (L : List R2), LL[i]? = some L → L.length = r ∧ ∃ (A : Option Addr) (c : Nat), vals[i]? = some (.slice A r c) ∧ w.ownsRow B 88 2 (.slice A r c) r (rowsV2 L)
theorem Tgs.ext {w w' : World} {B r : Nat} {vals : List Value} {LL : List (List R2)} (h : Tgs w B r vals LL) (hb : Below w.heap.size w w') : Tgs w' B r vals LL :=
 ⟨h.1, fun i L hL => by obtain ⟨h1, A, c, h2, h3⟩ := h.2 i L hL; exact ⟨h1, A, c, h2, own_ext h3 hb⟩⟩
theorem Tgs.kept {w w' : World} {B r : Nat} {vals : List Value} {LL : List (List R2)} (h : Tgs w B r vals LL) {B2 E2 s2 n2 : Nat} {v : Value} {xs : List Value} (ho : w.ownsRow B2 E2 s2 v n2 xs) (hne : 88 ≠ E2) (hg : w.grownBy w' v.ownBlock) : Tgs w' B r vals LL :=
 ⟨h.1, fun i L hL => by obtain ⟨h1, A, c, h2, h3⟩ := h.2 i L hL; exact ⟨h1, A, c, h2, h3.kept hg (own_neT h3 ho hne)⟩⟩
theorem Tgs.base {w : World} {B B' r : Nat} {vals : List Value} {LL : List (List R2)} (h : Tgs w B r vals LL) (hB : B' ≤ B) : Tgs w B' r vals LL :=
 ⟨h.1, fun i L hL => by obtain ⟨h1, A, c, h2, h3⟩ := h.2 i L hL; exact ⟨h1, A, c, h2, own_base h3 hB⟩⟩
theorem Tgs.snoc {w : World} {B r : Nat} {vals : List Value} {LL : List (List R2)} (h : Tgs w B r vals LL) {A : Option Addr} {c : Nat} {L : List R2} (hl : L.length = r) (ho : w.ownsRow B 88 2 (.slice A r c) r (rowsV2 L)) : Tgs w B r (vals ++ [.slice A r c]) (LL ++ [L]) := by
 refine ⟨by rw [List.length_append, List.length_append, h.1]; rfl, fun i M hM => ?_⟩
 by_cases hi : i < LL.length
 · rw [List.getElem?_append_left hi] at hM
   obtain ⟨h1, A', c', h2, h3⟩ := h.2 i M hM
   exact ⟨h1, A', c', by rw [List.getElem?_append_left (by rw [h.1]; exact hi)]; exact h2, h3⟩
 · have hi2 : i = LL.length := by
    have := (List.getElem?_eq_some_iff.1 hM).1
    rw [List.length_append] at this
    simp at this
    omega
   subst hi2
   rw [List.getElem?_append_right (Nat.le_refl _), Nat.sub_self] at hM
   injection hM with hM
   subst hM
   exact ⟨hl, A, c, by rw [← h.1, List.getElem?_append_right (Nat.le_refl _), Nat.sub_self]; rfl, ho⟩
theorem Tgs.nil (w : World) (B r : Nat) : Tgs w B r [] [] := ⟨rfl, fun i L hL => by cases hL⟩
def RetTg (w : World) (r : Nat) (LL : List (List R2)) (e : Ending) (w' : World) : Prop := ∃ (A : Option Addr) (c : Nat) (vals : List Value), e = .returned (.slice A LL.length c) ∧ w'.ownsRow w.heap.size 22 1 (.slice A LL.length c) LL.length vals ∧ Tgs w' w.heap.size r vals LL ∧ Below w.heap.size w w'
end Go.Proofs.Ytnadafopgokleaa
namespace Go.Proofs.Ytnadafopgokleaa
open Go.RowKit
set_option linter.unusedVariables false
set_option linter.unusedSimpArgs false
set_option maxRecDepth 100000 in
set_option maxHeartbeats 4000000 in
theorem l13Before_any (A B : Option Addr) (n c d : Nat) (l l' : List R2) (w : World) (hn : n ≤ 1048576) (h1 : smallR l) (h2 : smallR l') (h : Reads w w.heap.size 2 A n (rowsV2 l)) (h' : Reads w w.heap.size 2 B n (rowsV2 l')) :
 Calls Try.prog 57 #[.slice A n c, .slice B n d] w fun e w' => e = .returned (.bool (decide (cmpP l l' < 0))) ∧ Below w.heap.size w w' := by
 have hl := rows_len2 h
 have hl' := rows_len2 h'
 have H := Lib.hid h
 have H' := Lib.hid h'
 have H1 := Lib.hid h1
 have H2 := Lib.hid h2
 have HL := Lib.hid hl
 have HL' := Lib.hid hl'
 obtain ⟨Z, hZ⟩ : ∃ o9, cmpP l l' = o9 := ⟨_, rfl⟩
 rw [hZ]
 have HZ := Lib.hid hZ
 clear h h' hl hl' h1 h2 hZ
 go_enter Try.func57, Try.ntmps57
 go_wp2
 go_loopw [5] (fun i wr => ∃ k : Nat, k ≤ n ∧ i = .int .i64 k ∧ Hid (Z = cmpP (l.drop k) (l'.drop k)) ∧ Hid (Below w.heap.size w wr)) (fun i _ => n - (intOf i).toNat)
 case atStart => exact ⟨0, Nat.zero_le _, rfl, Lib.hid HZ.out.symm, Lib.hid (ext_refl _)⟩
 case round =>
  obtain ⟨k, hk, rfl, HE, HW⟩ := hrel
  obtain ⟨W0, hW0⟩ : ∃ y : World, y = wr := ⟨_, rfl⟩
  subst hW0
  by_cases hlt : k < n
  · obtain ⟨r, hr⟩ := list_split (l := l) (k := k) (by rw [HL.out]; exact hlt)
    obtain ⟨s, hs⟩ := list_split (l := l') (k := k) (by rw [HL'.out]; exact hlt)
    have hst := Lib.hid (cmpP_step hr hs)
    obtain ⟨ba, oa, rfl, hba, hca⟩ := rows_cmp (H.out.ext HW.out (Nat.le_refl _)) hr
    obtain ⟨bb, ob, rfl, hbb, hcb⟩ := rows_cmp (H'.out.ext HW.out (Nat.le_refl _)) hs
    have ca0 := hca 0 (by omega)
    have ca1 := hca 1 (by omega)
    have cb0 := hcb 0 (by omega)
    have cb1 := hcb 1 (by omega)
    have b1 := H1.out k r hr
    have b2 := H2.out k s hs
    obtain ⟨ra, rb⟩ := r
    obtain ⟨sa, sb⟩ := s
    rw [show cmp ⟨ra, rb⟩ 0 = ra from rfl, Nat.add_zero] at ca0
    rw [show cmp ⟨ra, rb⟩ 1 = rb from rfl] at ca1
    rw [show cmp ⟨sa, sb⟩ 0 = sa from rfl, Nat.add_zero] at cb0
    rw [show cmp ⟨sa, sb⟩ 1 = sb from rfl] at cb1
    dsimp only at b1 b2 hst
    clear hr hs hca hcb
    have kk1 : (k : Int) < (n : Int) := by omega
    have kk0 : (0 : Int) ≤ (k : Int) := by omega
    have hsz := HW.out.size
    have hba2 : ba < W0.heap.size := by omega
    have hbb2 : bb < W0.heap.size := by omega
    by_cases e0 : ra = sa
    · have d0 : (ra != sa) = false := by simp [e0]
      by_cases e1 : rb = sb
      · have d1 : (rb != sb) = false := by simp [e1]
        have HN := Lib.hid (show Z = cmpP (l.drop (k + 1)) (l'.drop (k + 1)) by rw [HE.out, hst.out, if_neg (by omega), if_neg (by omega)])
        clear e0 e1 b1 b2
        go_wp2
        refine wp_loop_rounds 3 ?_
        rw [rounds_succ]
        go_wp2
        go_region
        go_wp2
        rw [rounds_succ]
        go_wp2
        go_region
        go_wp2
        rw [rounds_succ]
        go_wp2
        go_roundw
        case rel => exact ⟨k + 1, by omega, by go_num, HN, Lib.hid HW.out.drew.drew⟩
        case measure => simp [intOf]; omega
      · have d1 : (rb != sb) = true := by simp [e1]
        have HN := Lib.hid (show decide (Z < 0) = decide (rb < sb) by rw [HE.out, hst.out, if_neg (by omega), if_pos (by omega)]; exact decide_eq_decide.2 (by omega))
        clear e0 e1
        go_wp2
        refine wp_loop_rounds 3 ?_
        rw [rounds_succ]
        go_wp2
        go_region
        go_wp2
        rw [rounds_succ]
        go_wp2
        go_region
        go_wp2
        go_region
        go_wp2
        go_ret
        rw [HN.out]; exact ⟨rfl, HW.out.drew.drew.drew⟩
    · have d0 : (ra != sa) = true := by simp [e0]
      have HN := Lib.hid (show decide (Z < 0) = decide (ra < sa) by rw [HE.out, hst.out, if_pos (by omega)]; exact decide_eq_decide.2 (by omega))
      clear e0
      go_wp2
      refine wp_loop_rounds 3 ?_
      rw [rounds_succ]
      go_wp2
      go_region
      go_wp2
      go_region
      go_wp2
      go_ret
      rw [HN.out]; exact ⟨rfl, HW.out.drew.drew⟩
  · obtain rfl : k = n := by omega
    have HN := Lib.hid (show decide (Z < 0) = false by rw [HE.out, cmpP_end l l' (by rw [HL.out]; omega)]; rfl)
    go_wp2
    go_ret
    rw [HN.out]; exact ⟨rfl, HW.out⟩
end Go.Proofs.Ytnadafopgokleaa
