
/- RunRules, CompiledMoves, FirstFailure: the program's and the reference's. -/
import Derived.Test.YtlkfffohjeoooaaRuH
namespace Go.Proofs.Ytlkfffohjeoooaa
open Go.RowKit
set_option linter.unusedVariables false
set_option linter.unusedSimpArgs false
def runOk (u lo : Int) (l : List R2) (s : ByteArray) : Bool := runB u lo l s && (runQ l s).isSome
def runW (l : List R2) (s : ByteArray) : WS := ((runQ l s).getD (⟨[], [], 0⟩, 0)).1
def runF (u lo : Int) (l : List R2) (s : ByteArray) : Int × Int × List R2 := if runOk u lo l s = true then (u, lo, rodsD (runW l s).ds) else (0, 0, [])
def cmpOk (u lo : Int) (l : List R2) (s : ByteArray) : Bool := runOk u lo l s && decide ((runW l s).ms.length ≤ 60)
def cmpMs (u lo : Int) (l : List R2) (s : ByteArray) : List R3 := if cmpOk u lo l s = true then (runW l s).ms else []
def ffV (u lo : Int) (l : List R2) (s : ByteArray) : Int := if runB u lo l s = true then (runD l s : Int) else 0
theorem rules_less {l : List R2} {s : ByteArray} (h : runQ l s = none) : runD l s < (rulesL s).length := done_less h
theorem rules_all {l : List R2} {s : ByteArray} {q : WS × Nat} (h : runQ l s = some q) : runD l s = (rulesL s).length := done_all h
theorem rules_81 {u lo : Int} {l : List R2} {s : ByteArray} (h : runB u lo l s = true) : (rulesL s).length ≤ 81 := by
  rw [rulesL_len]
  have := wordsL_len s
  unfold runB scrB at h
  simp only [Bool.and_eq_true, decide_eq_true_eq] at h
  omega
theorem runD_le (l : List R2) (s : ByteArray) : runD l s ≤ (rulesL s).length := doneN_le _ _ _
theorem runW_some {l : List R2} {s : ByteArray} {q : WS × Nat} (h : runQ l s = some q) : runW l s = q.1 := by unfold runW; rw [h]; rfl
theorem runQ_len {u lo : Int} {l : List R2} {s : ByteArray} {q : WS × Nat} (hb : runB u lo l s = true) (h : runQ l s = some q) : q.1.ds.length = l.length ∧ q.1.ms.length ≤ 128000 := by
  have h81 := rules_81 hb
  unfold runB at hb
  simp only [Bool.and_eq_true] at hb
  have hn := (frB_head (good_fr hb.2)).2.2.2
  have key : ∀ (k : Nat) (z : WS × Nat), k ≤ (rulesL s).length → runO l.length ((rulesL s).take k) (st0 l) = some z → Bd l.length (9 * k) z := by
    intro k
    induction k with
    | zero => intro z _ hz; simp [runO] at hz; subst hz; exact st0_Bd hb.2
    | succ k ih =>
      intro z hk hz
      obtain ⟨x, hx⟩ := list_split (l := rulesL s) (k := k) (by omega)
      rcases hy : runO l.length ((rulesL s).take k) (st0 l) with _ | y
      · unfold runO at hy hz
        rw [List.take_add_one, hx, List.foldl_append, hy] at hz
        simp at hz
      · rw [runO_take hy hx] at hz
        have hxo := okW_rules hb.1 hx
        exact ((ih y (by omega) hy).it hxo _ _ hz).more (by have := hxo.1.2; omega)
  have hbd := key (rulesL s).length q (Nat.le_refl _) (by rw [List.take_of_length_le (Nat.le_refl _)]; exact h)
  exact ⟨hbd.1.2.1, (hbd.ms hn (by omega)).1⟩
set_option maxRecDepth 100000 in
set_option maxHeartbeats 2000000 in
theorem implRunRules_any (u lo : Int) (A : Option Addr) (n c : Nat) (l : List R2) (s : ByteArray) (w : World) (hs : s.size ≤ 16777216) (hn : n ≤ 1048576) (h : Reads w w.heap.size 2 A n (rowsV2 l)) :
    Calls Try.prog 24 #[.string s, frV u lo A n c] w (RetFrB w (runF u lo l s) (runOk u lo l s)) := by
  have hl := rows_len2 h
  have H := Lib.hid h
  have BRes := Lib.hid (Blk.born (w.alloc (.cells #[.int .i64 u, .int .i64 lo, .slice A n c] 29)) #[.int .i64 0, .int .i64 0, .slice none 0 0] 29 (H := w.heap.size + 1) (by simp))
  have hbx := Lib.hid (ext_alloc (ext_alloc (ext_refl w) (.cells #[.int .i64 u, .int .i64 lo, .slice A n c] 29)) (.cells #[.int .i64 0, .int .i64 0, .slice none 0 0] 29))
  cases hrb : runB u lo l s
  · rw [show runF u lo l s = (0, 0, []) by simp [runF, runOk, hrb], show runOk u lo l s = false by simp [runOk, hrb]]
    · have HB := Lib.hid hrb
      clear hrb hl
      go_enter Try.func24, Try.ntmps24
      go_wp2_with fail
      refine (play_no u lo A n c l s _ hs hn (rdx H.out hbx.out) HB.out).mono ?_
      rintro e w1 ⟨rfl, hb1⟩
      have BR1 := Lib.hid (BRes.out.ext hb1)
      have hb2 := Lib.hid (ext_trans hbx.out hb1)
      obtain ⟨r0, r1, r2⟩ := BR1.out.q3
      obtain ⟨z0, z1, z2⟩ := BR1.out.z3
      have hRl := BR1.out.lt
      clear hb1
      go_wp2
      refine bodyPost_ret (v := .tuple #[frV 0 0 none 0 0, .bool false]) (by simp [results, Try.results24, go_sem, *]) rfl ?_
      exact ⟨none, 0, rfl, World.ownsRow_nil _ _ _ _, fill_below hb2.out (Nat.le_succ _)⟩
  have h81 := rules_81 hrb
  have hdl := runD_le l s
  rcases hq : runQ l s with _ | q
  · rw [show runF u lo l s = (0, 0, []) by simp [runF, runOk, hq], show runOk u lo l s = false by simp [runOk, hq]]
    · have HB := Lib.hid hrb
      have HQ := Lib.hid hq
      have hless := rules_less hq
      clear hrb hl hq
      go_enter Try.func24, Try.ntmps24
      go_wp2_with fail
      refine (play_yes u lo A n c l s _ hs hn (rdx H.out hbx.out) HB.out).mono ?_
      rintro e w1 ⟨P, rfl, hq1, hb1⟩
      clear hq1
      have BR1 := Lib.hid (BRes.out.ext hb1)
      have hb2 := Lib.hid (ext_trans hbx.out hb1)
      obtain ⟨r0, r1, r2⟩ := BR1.out.q3
      obtain ⟨z0, z1, z2⟩ := BR1.out.z3
      have hRl := BR1.out.lt
      clear hb1
      go_wp2
      refine bodyPost_ret (v := .tuple #[frV 0 0 none 0 0, .bool false]) (by simp [results, Try.results24, go_sem, *]) rfl ?_
      exact ⟨none, 0, rfl, World.ownsRow_nil _ _ _ _, fill_below hb2.out (Nat.le_succ _)⟩
  · have heq := rules_all hq
    rw [show runF u lo l s = (u, lo, rodsD q.1.ds) by simp [runF, runOk, hrb, hq, runW], show runOk u lo l s = true by simp [runOk, hrb, hq]]
    · have HB := Lib.hid hrb
      have HQ := Lib.hid hq
      have heq' : ¬ runD l s < (rulesL s).length := by omega
      clear hrb hl hq heq
      go_enter Try.func24, Try.ntmps24
      go_wp2_with fail
      refine (play_yes u lo A n c l s _ hs hn (rdx H.out hbx.out) HB.out).mono ?_
      rintro e w1 ⟨P, rfl, hq1, hb1⟩
      obtain ⟨g, hPl, hW⟩ := hq1 q HQ.out
      obtain ⟨hh, cr, cm, Am, hB, _, hr, _⟩ := hW
      obtain ⟨q0, q1, q2, q3, q4⟩ := hB.q5
      obtain ⟨p0, p1⟩ := hPl.q2
      have hr := Lib.hid (own_base (base' := w.heap.size) hr hbx.out.size)
      have BR1 := Lib.hid (BRes.out.ext hb1)
      have hb2 := Lib.hid (ext_trans hbx.out hb1)
      obtain ⟨r0, r1, r2⟩ := BR1.out.q3
      obtain ⟨z0, z1, z2⟩ := BR1.out.z3
      have hRl := BR1.out.lt
      clear hb1 hB hPl hq1
      go_wp2
      refine bodyPost_ret (v := .tuple #[frV u lo (some ⟨hh, 0, none⟩) q.1.ds.length cr, .bool true]) (by simp [results, Try.results24, go_sem, *]) rfl ?_
      refine ⟨some ⟨hh, 0, none⟩, cr, by rw [rodsD_len], ?_, fill_below hb2.out (Nat.le_succ _)⟩
      rw [rodsD_len]
      exact fill_own' hr.out (own_nbT hr.out BR1.out (by decide))

set_option maxRecDepth 100000 in
set_option maxHeartbeats 2000000 in
theorem implCompiledMoves_any (u lo : Int) (A : Option Addr) (n c : Nat) (l : List R2) (s : ByteArray) (w : World) (hs : s.size ≤ 16777216) (hn : n ≤ 1048576) (h : Reads w w.heap.size 2 A n (rowsV2 l)) :
    Calls Try.prog 15 #[.string s, frV u lo A n c] w (RetMv w (cmpMs u lo l s) (cmpOk u lo l s)) := by
  have hl := rows_len2 h
  have H := Lib.hid h
  have hbx := Lib.hid (ext_alloc (ext_refl w) (.cells #[.int .i64 u, .int .i64 lo, .slice A n c] 29))
  cases hrb : runB u lo l s
  · rw [show cmpMs u lo l s = [] by simp [cmpMs, cmpOk, runOk, hrb], show cmpOk u lo l s = false by simp [cmpOk, runOk, hrb]]
    · have HB := Lib.hid hrb
      clear hrb hl
      go_enter Try.func15, Try.ntmps15
      go_wp2_with fail
      refine (play_no u lo A n c l s _ hs hn (rdx H.out hbx.out) HB.out).mono ?_
      rintro e w1 ⟨rfl, hb1⟩
      go_wp2
      go_ret2
      exact ⟨none, 0, rfl, World.ownsRow_nil _ _ _ _, ext_trans hbx.out hb1⟩
  have h81 := rules_81 hrb
  have hdl := runD_le l s
  rcases hq : runQ l s with _ | q
  · rw [show cmpMs u lo l s = [] by simp [cmpMs, cmpOk, runOk, hq], show cmpOk u lo l s = false by simp [cmpOk, runOk, hq]]
    · have HB := Lib.hid hrb
      have HQ := Lib.hid hq
      have hless := rules_less hq
      clear hrb hl hq
      go_enter Try.func15, Try.ntmps15
      go_wp2_with fail
      refine (play_yes u lo A n c l s _ hs hn (rdx H.out hbx.out) HB.out).mono ?_
      rintro e w1 ⟨P, rfl, hq1, hb1⟩
      clear hq1
      go_wp2
      go_ret2
      exact ⟨none, 0, rfl, World.ownsRow_nil _ _ _ _, ext_trans hbx.out hb1⟩
  · have heq := rules_all hq
    obtain ⟨_, hml⟩ := runQ_len hrb hq
    have heq' : ¬ runD l s < (rulesL s).length := by omega
    by_cases h60 : q.1.ms.length ≤ 60
    · rw [show cmpMs u lo l s = q.1.ms by simp [cmpMs, cmpOk, runOk, hrb, hq, runW, h60], show cmpOk u lo l s = true by simp [cmpOk, runOk, hrb, hq, runW, h60]]
      have HB := Lib.hid hrb
      have HQ := Lib.hid hq
      clear hrb hl hq heq
      go_enter Try.func15, Try.ntmps15
      go_wp2_with fail
      refine (play_yes u lo A n c l s _ hs hn (rdx H.out hbx.out) HB.out).mono ?_
      rintro e w1 ⟨P, rfl, hq1, hb1⟩
      obtain ⟨g, hPl, hW⟩ := hq1 q HQ.out
      obtain ⟨hh, cr, cm, Am, hB, _, _, hm⟩ := hW
      obtain ⟨q0, q1, q2, q3, q4⟩ := hB.q5
      obtain ⟨p0, p1⟩ := hPl.q2
      have hm := Lib.hid (own_base (base' := w.heap.size) hm hbx.out.size)
      clear hB hPl hq1
      go_wp2
      go_ret2
      exact ⟨Am, cm, rfl, hm.out, ext_trans hbx.out hb1⟩
    · rw [show cmpMs u lo l s = [] by simp [cmpMs, cmpOk, runOk, hrb, hq, runW, h60], show cmpOk u lo l s = false by simp [cmpOk, runOk, hrb, hq, runW, h60]]
      have HB := Lib.hid hrb
      have HQ := Lib.hid hq
      clear hrb hl hq heq
      go_enter Try.func15, Try.ntmps15
      go_wp2_with fail
      refine (play_yes u lo A n c l s _ hs hn (rdx H.out hbx.out) HB.out).mono ?_
      rintro e w1 ⟨P, rfl, hq1, hb1⟩
      obtain ⟨g, hPl, hW⟩ := hq1 q HQ.out
      obtain ⟨hh, cr, cm, Am, hB, _, _, hm⟩ := hW
      obtain ⟨q0, q1, q2, q3, q4⟩ := hB.q5
      obtain ⟨p0, p1⟩ := hPl.q2
      have hm := Lib.hid (own_base (base' := w.heap.size) hm hbx.out.size)
      clear hB hPl hq1
      go_wp2
      go_ret2
      exact ⟨none, 0, rfl, World.ownsRow_nil _ _ _ _, ext_trans hbx.out hb1⟩
set_option maxRecDepth 100000 in
set_option maxHeartbeats 2000000 in
theorem implFirstFailure_any (u lo : Int) (A : Option Addr) (n c : Nat) (l : List R2) (s : ByteArray) (w : World) (hs : s.size ≤ 16777216) (hn : n ≤ 1048576) (h : Reads w w.heap.size 2 A n (rowsV2 l)) :
    Calls Try.prog 22 #[.string s, frV u lo A n c] w (RetV (.tuple #[.int .i64 (ffV u lo l s), .bool (runB u lo l s)]) w) := by
  have hl := rows_len2 h
  have H := Lib.hid h
  have hbx := Lib.hid (ext_alloc (ext_refl w) (.cells #[.int .i64 u, .int .i64 lo, .slice A n c] 29))
  have h81 := fun hb => @rules_81 u lo l s hb
  have hdl := runD_le l s
  cases hrb : runB u lo l s
  · rw [show ffV u lo l s = 0 by simp [ffV, hrb]]
    have HB := Lib.hid hrb
    clear hrb h81 hdl hl
    go_enter Try.func22, Try.ntmps22
    go_wp2_with fail
    refine (play_no u lo A n c l s _ hs hn (rdx H.out hbx.out) HB.out).mono ?_
    rintro e w1 ⟨rfl, hb1⟩
    go_wp2
    go_ret2
    exact ⟨rfl, ext_trans hbx.out hb1⟩
  · rw [show ffV u lo l s = (runD l s : Int) by simp [ffV, hrb]]
    have h81 := h81 hrb
    have HB := Lib.hid hrb
    clear hrb hl
    go_enter Try.func22, Try.ntmps22
    go_wp2_with fail
    refine (play_yes u lo A n c l s _ hs hn (rdx H.out hbx.out) HB.out).mono ?_
    rintro e w1 ⟨P, rfl, hq1, hb1⟩
    clear hq1
    go_wp2
    go_ret2
    exact ⟨rfl, ext_trans hbx.out hb1⟩
end Go.Proofs.Ytlkfffohjeoooaa
