
/- A school's copy: own, l25Own. -/
import Derived.Test.YtclihlihaigddaaSc
import Derived.Test.YtclihlihaigddaaCode
namespace Go.Proofs.Ytclihlihaigddaa
open Go.RowKit
set_option linter.unusedVariables false
set_option linter.unusedSimpArgs false
/-- a nil slice has no elements and no room -/
def SlOk (A : Option Addr) (n c : Nat) : Prop := A = none → n = 0 ∧ c = 0
theorem slOk_own {w : World} {base E size n c : Nat} {A : Option Addr} {xs : List Value} (h : w.ownsRow base E size (.slice A n c) n xs) : SlOk A n c := by
  intro hA
  subst hA
  rcases h.2 with ⟨h1, _⟩ | ⟨g, cap, cur, hv, _⟩
  · injection h1 with _ h2 h3; exact ⟨h2, h3⟩
  · cases hv
theorem Blk.grown {w w' : World} {g : Nat} {t : TypeId} {cs : Array Value} {row : Option Nat} (h : Blk w g t cs) (hg : w.grownBy w' row) (hne : row ≠ some g) : Blk w' g t cs := (hg.block g h.lt (Ne.symm hne)).trans h
theorem info_stu : (Try.prog.info? 109).map (fun i => (i.zero, i.size, i.bytes)) = some (some (.agg #[.int .i64 0, .int .i64 0, .int .i64 0, .int .i64 0, .int .i64 0]), 5, 40) := by kernel_rfl
theorem rows_one (l : List R5) : ∀ u ∈ rowsV l, u.oneCell' = true := by
  intro u hu
  obtain ⟨r, _, hr⟩ := List.mem_flatMap.1 hu
  simp only [R5.cells, List.mem_cons, List.not_mem_nil, or_false] at hr
  rcases hr with rfl | rfl | rfl | rfl | rfl <;> rfl
theorem reads_news {w : World} {B size n : Nat} {b : Addr} {xs : List Value} (h : Reads w B size (some b) n xs) : ∀ j u, xs[j]? = some u → w.cell? (b.add j) = some u := by
  intro j u hj
  have hlt : j < xs.length := (List.getElem?_eq_some_iff.1 hj).1
  have hn : 0 < n := by
    rcases Nat.eq_zero_or_pos n with h0 | h0
    · have := h.1; rw [h0, Nat.zero_mul] at this; omega
    · exact h0
  obtain ⟨b', o, e, _, hc⟩ := h.2 hn
  injection e with e
  subst e
  rw [add_flat]
  exact hc j u hj
theorem own_set {w : World} {B E size n : Nat} {v : Value} {xs : List Value} (h : w.ownsRow B E size v n xs) {p : Addr} (hp : p.block < B) (u : Value) : (w.setCell p u).ownsRow B E size v n xs :=
  h.kept (row := some p.block) (only_setCell (World.grownBy.refl _ _) (.inl rfl) u) (.inr (own_far_lt h hp))
def OwnRet (day pa le : Int) (n : Nat) (l : List R5) (w : World) (e : Ending) (w' : World) : Prop :=
  ∃ A' c', e = .returned (schV day A' n c' pa le) ∧ w'.ownsRow w.heap.size 109 5 (.slice A' n c') n (rowsV l) ∧ Below w.heap.size w w'
set_option maxHeartbeats 2000000 in
theorem own_any (day pa le : Int) (A : Option Addr) (n c : Nat) (l : List R5) (w : World) (hn : n ≤ 1048576) (hA : SlOk A n c) (h : Reads w w.heap.size 5 A n (rowsV l)) :
    Calls Try.prog 94 #[schV day A n c pa le] w (OwnRet day pa le n l w) := by
  obtain ⟨i0, ji, jz0, jz1, jz2⟩ := info_parts info_stu
  have hl := rows_len h
  obtain ⟨W, hW⟩ : ∃ W, W = ((w.alloc (.cells #[.int .i64 day, .slice A n c, .int .i64 pa, .int .i64 le] 24)).alloc (.cells #[.int .i64 0, .slice none 0 0, .int .i64 0, .int .i64 0] 24)).alloc (.cells #[] 109) := ⟨_, rfl⟩
  have hlen : (rowsV l).length = n * 5 := h.1
  have BX : Blk W w.heap.size 24 #[.int .i64 day, .slice A n c, .int .i64 pa, .int .i64 le] := by rw [hW]; exact ((Blk.new w _ _).ext (ext_alloc (ext_refl _) _)).ext (ext_alloc (ext_refl _) _)
  have BR : Blk W (w.heap.size + 1) 24 #[.int .i64 0, .slice none 0 0, .int .i64 0, .int .i64 0] := by
    rw [hW]
    have := (Blk.new (w.alloc (.cells #[.int .i64 day, .slice A n c, .int .i64 pa, .int .i64 le] 24)) #[.int .i64 0, .slice none 0 0, .int .i64 0, .int .i64 0] 24).ext (ext_alloc (ext_refl _) (.cells #[] 109))
    simpa using this
  have hbW : Below w.heap.size w W := by rw [hW]; exact ext_alloc (ext_alloc (ext_alloc (ext_refl _) _) _) _
  have hown : W.ownsRow (w.heap.size + 1 + 1) 109 5 (.slice (some ⟨w.heap.size + 1 + 1, 0, none⟩) 0 0) 0 [] := by
    rw [hW]
    have := own_lit0 ((w.alloc (.cells #[.int .i64 day, .slice A n c, .int .i64 pa, .int .i64 le] 24)).alloc (.cells #[.int .i64 0, .slice none 0 0, .int .i64 0, .int .i64 0] 24)) 109 5
    simpa using this
  have HX := Lib.hid BX
  have HR := Lib.hid BR
  have HO := Lib.hid hown
  have HB := Lib.hid hbW
  have HSZ : Hid (w.heap.size + 1 + 1 + 1 = W.heap.size) := Lib.hid (by rw [hW]; simp)
  have hrW := h.ext hbW (Nat.le_refl _)
  have HRW := Lib.hid hrW
  have HW := Lib.hid hW
  clear BX BR hown hbW hrW h
  have M1 : Hid (0 + n ≤ maxLen) := Lib.hid (by unfold maxLen; omega)
  have M2 : Hid ((0 + n) * 40 ≤ 140737488355328) := Lib.hid (by omega)
  have HLN := Lib.hid hlen
  clear hlen
  clear hW
  rcases A with _ | ad
  · obtain ⟨rfl, rfl⟩ := hA rfl
    have hl0 : l = [] := List.length_eq_zero_iff.1 hl
    subst hl0
    go_enter Try.func94, Try.ntmps94
    go_wp2
    refine bodyPost_ret (v := schV day (some ⟨w.heap.size + 1 + 1, 0, none⟩) 0 0 pa le) (by simp [results, Try.results94, go_sem]) rfl ⟨_, _, rfl, own_base (by have := own_lit0 ((w.alloc (.cells #[.int .i64 day, .slice (some ⟨w.heap.size + 1 + 1, 0, none⟩) 0 0, .int .i64 pa, .int .i64 le] 24)).alloc (.cells #[.int .i64 day, .slice (some ⟨w.heap.size + 1 + 1, 0, none⟩) 0 0, .int .i64 pa, .int .i64 le] 24)) 109 5; simpa [rowsV] using this) (show w.heap.size ≤ w.heap.size + 1 + 1 by omega), ext_alloc (ext_alloc (ext_alloc (ext_refl _) _) _) _⟩
  · have hnews := Lib.hid (reads_news HRW.out)
    go_enter Try.func94, Try.ntmps94
    go_wp2_with (at_builtin; rw [← HW.out]; refine wpList_append_own _ rfl (.tmp 3) (.tmp 5) 22 rfl (w.heap.size + 1 + 1) 109 i0 _ 5 40 Try.underlying22 ji jz0 jz1 jz2 rfl (by decide) _ 0 [] rfl HO.out ad n c (rowsV l) rfl HLN.out hnews.out (rows_one l) M1.out M2.out (by have := HSZ.out; omega) ?_; intro v' w1 hown1 hgrow1 _; change W.grownBy w1 (some (w.heap.size + 1 + 1)) at hgrow1; have HX1 := HX.out.grown hgrow1 (by intro e; injection e with e; omega); have HR1 := HR.out.grown hgrow1 (by intro e; injection e with e; omega); have hb1 := Lib.hid (below_grown' HO.out (by omega) HB.out hgrow1); rw [Nat.zero_add, List.nil_append] at hown1; obtain ⟨A', c', rfl⟩ := own_shape hown1; have HO1 := Lib.hid hown1; clear hgrow1 hown1; have x0 : w1.cell? ⟨w.heap.size, 0, none⟩ = some (.int .i64 day) := HX1.cell 0; have fx0 := HX1.frozen 0; have x1 : w1.cell? ⟨w.heap.size, 1, none⟩ = some (.slice (some ad) n c) := HX1.cell 1; have fx1 := HX1.frozen 1; have x2 : w1.cell? ⟨w.heap.size, 2, none⟩ = some (.int .i64 pa) := HX1.cell 2; have fx2 := HX1.frozen 2; have x3 : w1.cell? ⟨w.heap.size, 3, none⟩ = some (.int .i64 le) := HX1.cell 3; have fx3 := HX1.frozen 3; have r0 : w1.cell? ⟨w.heap.size + 1, 0, none⟩ = some (.int .i64 0) := HR1.cell 0; have fr0 := HR1.frozen 0; have r1 : w1.cell? ⟨w.heap.size + 1, 1, none⟩ = some (.slice none 0 0) := HR1.cell 1; have fr1 := HR1.frozen 1; have r2 : w1.cell? ⟨w.heap.size + 1, 2, none⟩ = some (.int .i64 0) := HR1.cell 2; have fr2 := HR1.frozen 2; have r3 : w1.cell? ⟨w.heap.size + 1, 3, none⟩ = some (.int .i64 0) := HR1.cell 3; have fr3 := HR1.frozen 3; clear HX1 HR1)
    refine bodyPost_ret (v := schV day A' n c' pa le) (by simp [results, Try.results94, go_sem, *]) rfl ⟨A', c', rfl, own_base (base := w.heap.size + 1 + 1) ?_ (by omega), ?_⟩
    · repeat refine own_set ?_ (by first | (show w.heap.size < w.heap.size + 1 + 1; omega) | (show w.heap.size + 1 < w.heap.size + 1 + 1; omega)) _
      exact HO1.out
    · repeat refine ext_set ?_ (by first | exact Nat.le_refl _ | exact Nat.le_succ _) _
      exact hb1.out
end Go.Proofs.Ytclihlihaigddaa
