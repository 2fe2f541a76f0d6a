
/- A school's copy by the reference: l25Own. -/
import Derived.Test.YtclihlihaigddaaScO
namespace Go.Proofs.Ytclihlihaigddaa
open Go.RowKit
set_option linter.unusedVariables false
set_option linter.unusedSimpArgs false
theorem step_append_own' {P : Program} {w : World} {ops : Array Oper} {o : Oper} {a : Act} {K : Act → World → Prop} {Q : Exit → Act → World → Prop} {E : Prop} (hgd : o.guard = none) (s x : Operand) (t : TypeId)
    (ho : o.op = .call { callee := .builtin .append, args := #[s, x], argTypes := #[t, t] })
    (base : Nat) (e : TypeId) (i : TypeInfo) (z : Value) (size bytes : Nat) (ht : P.underlying t = some (.slice e)) (hi : P.info? e = some i) (hz : i.zero = some z)
    (hsize : i.size = size) (hby : i.bytes = bytes) (hzs : z.cells.size = size) (hsz : 0 < size)
    (v : Value) (n : Nat) (xs : List Value) (hs : a.eval s = v) (hown : w.ownsRow base e size v n xs)
    (ad : Addr) (m c : Nat) (news : List Value) (hx : a.eval x = .slice (some ad) m c) (hl : news.length = m * size) (hnews : ∀ j u, news[j]? = some u → w.cell? (ad.add j) = some u) (h1 : ∀ u ∈ news, u.oneCell' = true)
    (h63 : n + m ≤ maxLen) (hbytes : (n + m) * bytes ≤ 140737488355328) (hbase : base ≤ w.heap.size)
    (h : ∀ v' w', w'.ownsRow base e size v' (n + m) (xs ++ news) → w.grownBy w' v.ownBlock → K (a.put o.dst v') w') :
    if Region.wanted o (yielded ops a.tmps) = true then Oper.wp P o a w K Q else E := by
  rw [if_pos (by simp [Region.wanted, hgd])]
  exact wp_append_own w s x t ho base e i z size bytes ht hi hz hsize hby hzs hsz v n xs hs hown ad m c news hx hl hnews h1 h63 hbytes hbase (fun v' w' a b _ => h v' w' a b)
set_option maxHeartbeats 2000000 in
theorem l25Own_any (day pa le : Int) (A : Option Addr) (n c : Nat) (l : List R5) (w : World) (hn : n ≤ 1048576) (hA : SlOk A n c) (h : Reads w w.heap.size 5 A n (rowsV l)) :
    Calls Try.prog 116 #[schV day A n c pa le] w (OwnRet day pa le n l w) := by
  obtain ⟨i0, ji, jz0, jz1, jz2⟩ := info_parts info_stu
  have hl := rows_len h
  obtain ⟨W, hW⟩ : ∃ W, W = (((w.alloc (.cells #[.int .i64 day, .slice A n c, .int .i64 pa, .int .i64 le] 24)).alloc (.cells #[.int .i64 0, .slice none 0 0, .int .i64 0, .int .i64 0] 24)).alloc (.cells #[] 109)).drew := ⟨_, rfl⟩
  have hlen : (rowsV l).length = n * 5 := h.1
  have BX : Blk W w.heap.size 24 #[.int .i64 day, .slice A n c, .int .i64 pa, .int .i64 le] := by rw [hW]; exact (((Blk.new w _ _).ext (ext_alloc (ext_refl _) _)).ext (ext_alloc (ext_refl _) _)).ext (ext_drew (ext_refl _))
  have BR : Blk W (w.heap.size + 1) 24 #[.int .i64 0, .slice none 0 0, .int .i64 0, .int .i64 0] := by
    rw [hW]
    have := (Blk.new (w.alloc (.cells #[.int .i64 day, .slice A n c, .int .i64 pa, .int .i64 le] 24)) #[.int .i64 0, .slice none 0 0, .int .i64 0, .int .i64 0] 24).ext (ext_drew (ext_alloc (ext_refl _) (.cells #[] 109)))
    simpa using this
  have hbW : Below w.heap.size w W := by rw [hW]; exact ext_drew (ext_alloc (ext_alloc (ext_alloc (ext_refl _) _) _) _)
  have hown : W.ownsRow (w.heap.size + 1 + 1) 109 5 (.slice (some ⟨w.heap.size + 1 + 1, 0, none⟩) 0 0) 0 [] := by
    rw [hW]
    have := own_lit0 ((w.alloc (.cells #[.int .i64 day, .slice A n c, .int .i64 pa, .int .i64 le] 24)).alloc (.cells #[.int .i64 0, .slice none 0 0, .int .i64 0, .int .i64 0] 24)) 109 5
    have := this.drew
    simpa using this
  have HX := Lib.hid BX
  have HR := Lib.hid BR
  have HO := Lib.hid hown
  have HB := Lib.hid hbW
  have HSZ : Hid (w.heap.size + 1 + 1 + 1 = W.heap.size) := Lib.hid (by rw [hW]; simp)
  have hrW := h.ext hbW (Nat.le_refl _)
  have HRW := Lib.hid hrW
  have HW := Lib.hid hW
  clear BX BR hown hbW hrW h
  have M1 : Hid (0 + n ≤ maxLen) := Lib.hid (by unfold maxLen; omega)
  have M2 : Hid ((0 + n) * 40 ≤ 140737488355328) := Lib.hid (by omega)
  have HLN := Lib.hid hlen
  clear hlen hW
  rcases A with _ | ad
  · obtain ⟨rfl, rfl⟩ := hA rfl
    have hl0 : l = [] := List.length_eq_zero_iff.1 hl
    subst hl0
    go_enter Try.func116, Try.ntmps116
    go_wp2_with fail
    go_region_held3 (fun w' => w'.cell? ⟨w.heap.size, 0, none⟩ = some (.int .i64 day) ∧ w'.cell? ⟨w.heap.size, 1, none⟩ = some (.slice none 0 0) ∧ w'.cell? ⟨w.heap.size, 2, none⟩ = some (.int .i64 pa) ∧ w'.cell? ⟨w.heap.size, 3, none⟩ = some (.int .i64 le)) (go_keep) (fail)
    go_wp2
    refine bodyPost_ret (v := schV day (some ⟨w.heap.size + 1 + 1, 0, none⟩) 0 0 pa le) (by simp [results, Try.results116, go_sem]) rfl ⟨_, _, rfl, own_base (base := w.heap.size + 1 + 1) (by have := (own_lit0 ((w.alloc (.cells #[.int .i64 day, .slice none 0 0, .int .i64 pa, .int .i64 le] 24)).alloc (.cells #[.int .i64 day, .slice (some ⟨w.heap.size + 1 + 1, 0, none⟩) 0 0, .int .i64 pa, .int .i64 le] 24)) 109 5).drew; simpa [rowsV] using this) (by omega), ext_drew (ext_alloc (ext_alloc (ext_alloc (ext_refl _) _) _) _)⟩
  · have hnews := Lib.hid (reads_news HRW.out)
    go_enter Try.func116, Try.ntmps116
    go_wp2_with fail
    go_region_held3 (fun w' => w'.cell? ⟨w.heap.size, 0, none⟩ = some (.int .i64 day) ∧ w'.cell? ⟨w.heap.size, 1, none⟩ = some (.slice (some ad) n c) ∧ w'.cell? ⟨w.heap.size, 2, none⟩ = some (.int .i64 pa) ∧ w'.cell? ⟨w.heap.size, 3, none⟩ = some (.int .i64 le)) (first | (go_split_ands; refine ⟨?_, ?_, ?_, ?_⟩ <;> first | with_reducible assumption | (refine cell_set_far (by simp <;> omega) ?_; with_reducible assumption) | (repeat refine cell_set_far (by simp <;> omega) ?_) <;> with_reducible assumption) | go_keep)
      ((rw [← HW.out]; refine step_append_own' (by rfl) (.tmp 5) (.tmp 7) 22 (by rfl) (w.heap.size + 1 + 1) 109 i0 _ 5 40 Try.underlying22 ji jz0 jz1 jz2 rfl (by decide) _ 0 [] (by rfl) HO.out ad n c (rowsV l) (by rfl) HLN.out hnews.out (rows_one l) M1.out M2.out (by have := HSZ.out; omega) ?_; intro v' w1 hown1 hgrow1; change W.grownBy w1 (some (w.heap.size + 1 + 1)) at hgrow1; have HX1 := HX.out.grown hgrow1 (by intro e; injection e with e; omega); have HR1 := HR.out.grown hgrow1 (by intro e; injection e with e; omega); have hb1 := Lib.hid (below_grown' HO.out (by omega) HB.out hgrow1); rw [Nat.zero_add, List.nil_append] at hown1; obtain ⟨A', c', rfl⟩ := own_shape hown1; have HO1 := Lib.hid hown1; clear hgrow1 hown1; have x0 : w1.cell? ⟨w.heap.size, 0, none⟩ = some (.int .i64 day) := HX1.cell 0; have fx0 := HX1.frozen 0; have x1 : w1.cell? ⟨w.heap.size, 1, none⟩ = some (.slice (some ad) n c) := HX1.cell 1; have fx1 := HX1.frozen 1; have x2 : w1.cell? ⟨w.heap.size, 2, none⟩ = some (.int .i64 pa) := HX1.cell 2; have fx2 := HX1.frozen 2; have x3 : w1.cell? ⟨w.heap.size, 3, none⟩ = some (.int .i64 le) := HX1.cell 3; have fx3 := HX1.frozen 3; have r0 : w1.cell? ⟨w.heap.size + 1, 0, none⟩ = some (.int .i64 0) := HR1.cell 0; have fr0 := HR1.frozen 0; have r1 : w1.cell? ⟨w.heap.size + 1, 1, none⟩ = some (.slice none 0 0) := HR1.cell 1; have fr1 := HR1.frozen 1; have r2 : w1.cell? ⟨w.heap.size + 1, 2, none⟩ = some (.int .i64 0) := HR1.cell 2; have fr2 := HR1.frozen 2; have r3 : w1.cell? ⟨w.heap.size + 1, 3, none⟩ = some (.int .i64 0) := HR1.cell 3; have fr3 := HR1.frozen 3; clear HX1 HR1))
    go_wp2
    refine bodyPost_ret (v := schV day A' n c' pa le) (by simp [results, Try.results116, go_sem, *]) rfl ⟨A', c', rfl, own_base (base := w.heap.size + 1 + 1) ?_ (by omega), ?_⟩
    · repeat refine own_set ?_ (by first | (show w.heap.size < w.heap.size + 1 + 1; omega) | (show w.heap.size + 1 < w.heap.size + 1 + 1; omega)) _
      exact HO1.out
    · repeat refine ext_set ?_ (by first | exact Nat.le_refl _ | exact Nat.le_succ _) _
      exact hb1.out
end Go.Proofs.Ytclihlihaigddaa
