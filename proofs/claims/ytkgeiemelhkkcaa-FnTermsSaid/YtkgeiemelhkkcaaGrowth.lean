
/- Growth: the program's and the reference's. -/
import Derived.Test.YtkgeiemelhkkcaaBest
import Derived.Test.YtkgeiemelhkkcaaMarks5
import Derived.StillTailTactics
namespace Go.Proofs.Ytkgeiemelhkkcaa
open Go.RowKit
set_option linter.unusedVariables false
set_option linter.unusedSimpArgs false
def growAt (l : List R5) (k : Nat) : Int := ((l[k]?).map R5.b).getD 0 - ((l[k - 1]?).map R5.b).getD 0
def growTo (l : List R5) (k : Nat) : List Int := (List.range (k - 1)).map fun i => growAt l (i + 1)
theorem growTo_succ {l : List R5} {k : Nat} (hk : 1 ≤ k) : growTo l (k + 1) = growTo l k ++ [growAt l k] := by
  obtain ⟨j, rfl⟩ : ∃ j, k = j + 1 := ⟨k - 1, by omega⟩
  simp [growTo, List.range_succ]
theorem growTo_len (l : List R5) (k : Nat) : (growTo l k).length = k - 1 := by simp [growTo]
def growB (l : List R5) : List Int := if areB l = true then growTo l l.length else []
theorem info_int : (Try.prog.info? 3).map (fun i => (i.zero, i.size, i.bytes)) = some (some (.int .i64 0), 1, 8) := by kernel_rfl
theorem cell_one_new' (w : World) (v : Value) (e : TypeId) : ∀ j u, [v][j]? = some u → (w.alloc (.cells #[v] e)).cell? ((⟨w.heap.size, 0, none⟩ : Addr).add j) = some u := by
  intro j u hj
  match j, hj with
  | 0, hj => simp at hj; subst hj; rw [add_flat, World.cell?_alloc_at _ _ _ _ rfl]; rfl
  | j + 1, hj => simp at hj
theorem cell_one_at (w : World) (v : Value) (e : TypeId) {H : Nat} (hH : H = w.heap.size) : ∀ j u, [v][j]? = some u → (w.alloc (.cells #[v] e)).cell? ((⟨H, 0, none⟩ : Addr).add j) = some u := by
  subst hH; exact cell_one_new' w v e
set_option maxHeartbeats 1000000 in
theorem implGrowth_any (A : Option Addr) (n c : Nat) (l : List R5) (w : World) (hn : n ≤ 1048576) (h : Reads w w.heap.size 5 A n (rowsV l)) :
    Calls Try.prog 32 #[.slice A n c] w (RetSliceB w 3 1 (growB l).length (intsV (growB l)) (areB l)) := by
  have hl := rows_len h
  have H := Lib.hid h
  have HL := Lib.hid hl
  clear h hl
  obtain ⟨i0, hi, hz0, hz1, hz2⟩ := info_parts info_int
  cases hg : areB l
  · have E : growB l = [] := by simp [growB, hg]
    rw [E]
    go_enter Try.func32, Try.ntmps32
    go_wp2_with (go_at_call 21; refine (areTermRows_any A n c l _ hn H.out).mono ?_; rintro e w' ⟨rfl, hb⟩; obtain ⟨hc, hf⟩ := bcell hb; have hz := hb.size; (try simp at hz))
    go_ret2
    exact ⟨none, 0, rfl, World.ownsRow_nil _ _ _ _, hb⟩
  · have E : growB l = growTo l n := by rw [growB, if_pos hg, HL.out]
    have HE := Lib.hid E
    clear E
    have HG := Lib.hid (fun (k : Nat) (r : R5) (h : l[k]? = some r) => are_all hg h)
    go_enter Try.func32, Try.ntmps32
    go_wp2_with (go_at_call 21; refine (areTermRows_any A n c l _ hn H.out).mono ?_; rintro e w' ⟨rfl, hb⟩; obtain ⟨hc, hf⟩ := bcell hb; have hz := hb.size; (try simp at hz))
    go_loopw [4, 5] (fun v i wr => ∃ k : Nat, (k + 1 ≤ n ∨ k = 0) ∧ i = .int .i64 ((k : Int) + 1) ∧ wr.ownsRow w.heap.size 3 1 v k (intsV (growTo l (k + 1))) ∧ Below w.heap.size w wr) (fun _ i _ => n - (intOf i).toNat)
    case atStart => exact ⟨0, .inr rfl, rfl, World.ownsRow_nil _ _ _ _, hb⟩
    case round =>
      obtain ⟨k, hk, rfl, hown, hbl⟩ := hrel
      by_cases hlt : k + 1 < n
      · obtain ⟨r, hr⟩ := list_split (l := l) (k := k + 1) (by rw [HL.out]; exact hlt)
        obtain ⟨b, o, rfl, hbb, c0, c1, c2, c3, c4⟩ := rows_at (H.out.ext hbl (Nat.le_refl _)) hr
        obtain ⟨s, hs⟩ := list_split (l := l) (k := k) (by rw [HL.out]; omega)
        obtain ⟨b', o', hA, hb', d0, d1, d2, d3, d4⟩ := rows_at (H.out.ext hbl (Nat.le_refl _)) hs
        injection hA with hA
        injection hA with hA1 hA2
        subst hA1 hA2
        obtain ⟨y1, ⟨y2, y2'⟩, y3, y4, y5⟩ := row_bounds (HG.out _ _ hr)
        obtain ⟨p1, ⟨p2, p2'⟩, p3, p4, p5⟩ := row_bounds (HG.out _ _ hs)
        have hbw : b < wr.heap.size := Nat.lt_of_lt_of_le hbb hbl.size
        have hgr := Lib.hid (show growAt l (k + 1) = r.b - s.b by simp [growAt, hr, hs])
        clear hr hs
        have q1 : (k : Int) + 1 < (n : Int) := by omega
        have m1 : k + 1 ≤ maxLen := by unfold maxLen; omega
        have m2 : (k + 1) * 8 ≤ 140737488355328 := by omega
        have m3 : w.heap.size ≤ wr.heap.size + 1 := by have := hbl.size; omega
        have q0 : (0 : Int) ≤ (k : Int) + 1 := by omega
        have q3 : (k : Int) < (n : Int) := by omega
        have q4 : (0 : Int) ≤ (k : Int) := by omega
        have q7 : IntKind.i64.wrap (r.b - s.b) = r.b - s.b := IntWalk.i64_in _ (by omega)
        have q5 : IntKind.i64.wrap ((k : Int) + 1 - 1) = (k : Int) := by rw [show (k : Int) + 1 - 1 = k from by omega]; exact IntWalk.i64_in _ (by omega)
        have q5' : IntKind.i64.wrap (k : Int) = (k : Int) := IntWalk.i64_in _ (by omega)
        have q6 : ((k : Int) + 1).toNat = k + 1 := by omega
        go_wp2
        go_region_held3 (fun w' => w'.cell? ⟨b, o + (k + 1) * 5 + 1, none⟩ = some (.int .i64 r.b) ∧ w'.cell? ⟨b, o + k * 5 + 1, none⟩ = some (.int .i64 s.b)) (first | go_keep | (go_split_ands; ((repeat' refine And.intro ?_ ?_) <;> first | assumption | exact cell_own_grown hown hgrow hbb (by assumption))))
          ((refine step_append_lies _ (by rfl) _ _ _ (by rfl) w.heap.size 3 i0 _ 1 8 Try.underlying41 hi hz0 hz1 hz2 rfl (by omega) u4 k _ (by rfl) ((hown.alloc _).drew) ⟨wr.heap.size, 0, none⟩ 1 1 [.int .i64 (r.b - s.b)] (by rfl) (by rfl) (cell_one_new' _ _ _) (by simp [Value.oneCell']) (by omega) m1 m2 (by simpa using m3) (wr.heap.size + 1) (by simp) ?_; intro g cap w2 hown2 hgrow hat hlt2))
        clear q0 q1 q3 q4 q5 q5' q6 q7
        go_wp2
        go_roundw
        case rel =>
          refine ⟨k + 1, .inl (by omega), by go_num, ?_, below_grown hown (by repeat (first | exact ext_refl _ | assumption | refine ext_alloc ?_ _ | refine ext_drew ?_ | refine ext_drewN ?_ _ | refine ext_set ?_ (by simp <;> omega) _ | refine ext_trans ?_ (by assumption))) hgrow⟩
          have e : intsV (growTo l (k + 1 + 1)) = intsV (growTo l (k + 1)) ++ [.int .i64 (r.b - s.b)] := by rw [growTo_succ (by omega), hgr.out]; simp [intsV]
          rw [e]
          exact hown2
        case measure => simp [intOf]; omega
      · have hkn : growB l = growTo l (k + 1) := by
          rw [HE.out]
          rcases hk with hk | rfl
          · rw [show n = k + 1 from by omega]
          · match n, hlt with
            | 0, _ => rfl
            | 1, _ => rfl
            | n + 2, hlt => omega
        have hkl : (growTo l (k + 1)).length = k := by rw [growTo_len]; omega
        obtain ⟨A', c', rfl⟩ := own_shape hown
        have HK := Lib.hid hkn
        have HL2 := Lib.hid hkl
        clear hkn hkl
        have q1 : (n : Int) ≤ (k : Int) + 1 := by omega
        go_wp2
        go_ret2
        refine ⟨A', c', ?_, ?_, hbl⟩
        · rw [HK.out, HL2.out]; rfl
        · rw [HK.out, HL2.out]; exact hown
set_option maxHeartbeats 1000000 in
theorem specGrowth_any (A : Option Addr) (n c : Nat) (l : List R5) (w : World) (hn : n ≤ 1048576) (h : Reads w w.heap.size 5 A n (rowsV l)) :
    Calls Try.prog 31 #[.slice A n c] w (RetSliceB w 3 1 (growB l).length (intsV (growB l)) (areB l)) := by
  have hl := rows_len h
  have H := Lib.hid h
  have HL := Lib.hid hl
  clear h hl
  obtain ⟨i0, hi, hz0, hz1, hz2⟩ := info_parts info_int
  cases hg : areB l
  · have E : growB l = [] := by simp [growB, hg]
    rw [E]
    go_enter Try.func31, Try.ntmps31
    go_wp2_with (go_at_call 58; refine (l26Good_any A n c l _ hn (rows_ext H.out (ext_alloc (ext_refl w) _))).mono ?_; rintro e w' ⟨rfl, hb⟩; obtain ⟨hc, hf⟩ := bcell hb; have hz := hb.size; (try simp at hz))
    have ho := own_ext (own_lit0 w 3 1) hb
    go_ret2
    exact ⟨_, _, rfl, ho, (by repeat (first | exact ext_refl _ | assumption | refine ext_alloc ?_ _ | refine ext_drew ?_ | refine ext_drewN ?_ _ | refine ext_set ?_ (by simp <;> omega) _ | refine ext_trans ?_ (by assumption)))⟩
  · have E : growB l = growTo l n := by rw [growB, if_pos hg, HL.out]
    have HE := Lib.hid E
    clear E
    have HG := Lib.hid (fun (k : Nat) (r : R5) (h : l[k]? = some r) => are_all hg h)
    go_enter Try.func31, Try.ntmps31
    go_wp2_with (go_at_call 58; refine (l26Good_any A n c l _ hn (rows_ext H.out (ext_alloc (ext_refl w) _))).mono ?_; rintro e w' ⟨rfl, hb⟩; obtain ⟨hc, hf⟩ := bcell hb; have hz := hb.size; (try simp at hz))
    have ho := own_ext (own_lit0 w 3 1) hb
    go_loopw [4, 5] (fun v i wr => ∃ k : Nat, (k + 1 ≤ n ∨ k = 0) ∧ i = .int .i64 ((k : Int) + 1) ∧ wr.ownsRow w.heap.size 3 1 v k (intsV (growTo l (k + 1))) ∧ Below w.heap.size w wr) (fun _ i _ => n - (intOf i).toNat)
    case atStart => exact ⟨0, .inr rfl, rfl, ho, (by repeat (first | exact ext_refl _ | assumption | refine ext_alloc ?_ _ | refine ext_drew ?_ | refine ext_drewN ?_ _ | refine ext_set ?_ (by simp <;> omega) _ | refine ext_trans ?_ (by assumption)))⟩
    case round =>
      obtain ⟨k, hk, rfl, hown, hbl⟩ := hrel
      by_cases hlt : k + 1 < n
      · obtain ⟨r, hr⟩ := list_split (l := l) (k := k + 1) (by rw [HL.out]; exact hlt)
        obtain ⟨b, o, rfl, hbb, c0, c1, c2, c3, c4⟩ := rows_at (H.out.ext hbl (Nat.le_refl _)) hr
        obtain ⟨s, hs⟩ := list_split (l := l) (k := k) (by rw [HL.out]; omega)
        obtain ⟨b', o', hA, hb', d0, d1, d2, d3, d4⟩ := rows_at (H.out.ext hbl (Nat.le_refl _)) hs
        injection hA with hA
        injection hA with hA1 hA2
        subst hA1 hA2
        obtain ⟨y1, ⟨y2, y2'⟩, y3, y4, y5⟩ := row_bounds (HG.out _ _ hr)
        obtain ⟨p1, ⟨p2, p2'⟩, p3, p4, p5⟩ := row_bounds (HG.out _ _ hs)
        have hbw : b < wr.heap.size := Nat.lt_of_lt_of_le hbb hbl.size
        have hgr := Lib.hid (show growAt l (k + 1) = r.b - s.b by simp [growAt, hr, hs])
        clear hr hs
        have q1 : (k : Int) + 1 < (n : Int) := by omega
        have m1 : k + 1 ≤ maxLen := by unfold maxLen; omega
        have m2 : (k + 1) * 8 ≤ 140737488355328 := by omega
        have m3 : w.heap.size ≤ wr.heap.size + 1 := by have := hbl.size; omega
        have q0 : (0 : Int) ≤ (k : Int) + 1 := by omega
        have q3 : (k : Int) < (n : Int) := by omega
        have q4 : (0 : Int) ≤ (k : Int) := by omega
        have q7 : IntKind.i64.wrap (r.b - s.b) = r.b - s.b := IntWalk.i64_in _ (by omega)
        have q5 : IntKind.i64.wrap ((k : Int) + 1 - 1) = (k : Int) := by rw [show (k : Int) + 1 - 1 = k from by omega]; exact IntWalk.i64_in _ (by omega)
        have q5' : IntKind.i64.wrap (k : Int) = (k : Int) := IntWalk.i64_in _ (by omega)
        have q6 : ((k : Int) + 1).toNat = k + 1 := by omega
        go_wp2
        go_region_held3 (fun w' => w'.cell? ⟨b, o + (k + 1) * 5 + 1, none⟩ = some (.int .i64 r.b) ∧ w'.cell? ⟨b, o + k * 5 + 1, none⟩ = some (.int .i64 s.b)) (first | go_keep | (go_split_ands; ((repeat' refine And.intro ?_ ?_) <;> first | assumption | exact cell_own_grown hown hgrow hbb (by assumption))))
          ((refine step_append_lies _ (by rfl) _ _ _ (by rfl) w.heap.size 3 i0 _ 1 8 Try.underlying41 hi hz0 hz1 hz2 rfl (by omega) u4 k _ (by rfl) ((hown.alloc _).drew) ⟨wr.heap.size, 0, none⟩ 1 1 [.int .i64 (r.b - s.b)] (by rfl) (by rfl) (cell_one_new' _ _ _) (by simp [Value.oneCell']) (by omega) m1 m2 (by simpa using m3) (wr.heap.size + 1) (by simp) ?_; intro g cap w2 hown2 hgrow hat hlt2))
        clear q0 q1 q3 q4 q5 q5' q6 q7
        go_wp2
        go_roundw
        case rel =>
          refine ⟨k + 1, .inl (by omega), by go_num, ?_, below_grown hown (by repeat (first | exact ext_refl _ | assumption | refine ext_alloc ?_ _ | refine ext_drew ?_ | refine ext_drewN ?_ _ | refine ext_set ?_ (by simp <;> omega) _ | refine ext_trans ?_ (by assumption))) hgrow⟩
          have e : intsV (growTo l (k + 1 + 1)) = intsV (growTo l (k + 1)) ++ [.int .i64 (r.b - s.b)] := by rw [growTo_succ (by omega), hgr.out]; simp [intsV]
          rw [e]
          exact hown2
        case measure => simp [intOf]; omega
      · have hkn : growB l = growTo l (k + 1) := by
          rw [HE.out]
          rcases hk with hk | rfl
          · rw [show n = k + 1 from by omega]
          · match n, hlt with
            | 0, _ => rfl
            | 1, _ => rfl
            | n + 2, hlt => omega
        have hkl : (growTo l (k + 1)).length = k := by rw [growTo_len]; omega
        obtain ⟨A', c', rfl⟩ := own_shape hown
        have HK := Lib.hid hkn
        have HL2 := Lib.hid hkl
        clear hkn hkl
        have q1 : (n : Int) ≤ (k : Int) + 1 := by omega
        go_wp2
        go_ret2
        refine ⟨A', c', ?_, ?_, hbl⟩
        · rw [HK.out, HL2.out]; rfl
        · rw [HK.out, HL2.out]; exact hown
end Go.Proofs.Ytkgeiemelhkkcaa
