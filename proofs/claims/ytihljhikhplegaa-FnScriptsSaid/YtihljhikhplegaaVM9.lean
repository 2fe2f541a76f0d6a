/- RunRules, CompiledMoves, FirstFailure: the program's and the reference's. -/
import Derived.Test.YtihljhikhplegaaVRuH
import Derived.Test.YtihljhikhplegaaVM5
import Derived.Test.YtihljhikhplegaaVM6
import Derived.Test.YtihljhikhplegaaVM1
import Derived.Test.YtihljhikhplegaaVM4
import Derived.Test.YtihljhikhplegaaVM3
namespace Go.Proofs.Ytihljhikhplegaa
open Go.RowKit
set_option linter.unusedVariables false
set_option linter.unusedSimpArgs false
def runOk (u lo : Int) (l : List R2) (s : ByteArray) : Bool := runB u lo l s && (runQ l s).isSome
def runW (l : List R2) (s : ByteArray) : WS := ((runQ l s).getD (⟨[], [], 0⟩, 0)).1
def runF (u lo : Int) (l : List R2) (s : ByteArray) : Int × Int × List R2 := if runOk u lo l s = true then (u, lo, rodsD (runW l s).ds) else (0, 0, [])
def cmpOk (u lo : Int) (l : List R2) (s : ByteArray) : Bool := runOk u lo l s && decide ((runW l s).ms.length ≤ 60)
def cmpMs (u lo : Int) (l : List R2) (s : ByteArray) : List R3 := if cmpOk u lo l s = true then (runW l s).ms else []
def ffV (u lo : Int) (l : List R2) (s : ByteArray) : Int := if runB u lo l s = true then (runD l s : Int) else 0
theorem rules_less {l : List R2} {s : ByteArray} (h : runQ l s = none) : runD l s < (rulesL s).length := done_less h
theorem rules_all {l : List R2} {s : ByteArray} {q : WS × Nat} (h : runQ l s = some q) : runD l s = (rulesL s).length := done_all h
theorem rules_81 {u lo : Int} {l : List R2} {s : ByteArray} (h : runB u lo l s = true) : (rulesL s).length ≤ 81 := by
 rw [rulesL_len]
 have := wordsL_len s
 unfold runB scrB at h
 simp only [Bool.and_eq_true, decide_eq_true_eq] at h
 omega
theorem runD_le (l : List R2) (s : ByteArray) : runD l s ≤ (rulesL s).length := doneN_le _ _ _
theorem runW_some {l : List R2} {s : ByteArray} {q : WS × Nat} (h : runQ l s = some q) : runW l s = q.1 := by unfold runW; rw [h]; rfl
theorem runQ_len {u lo : Int} {l : List R2} {s : ByteArray} {q : WS × Nat} (hb : runB u lo l s = true) (h : runQ l s = some q) : q.1.ds.length = l.length ∧ q.1.ms.length ≤ 128000 := by
 have h81 := rules_81 hb
 unfold runB at hb
 simp only [Bool.and_eq_true] at hb
 have hn := (frB_head (good_fr hb.2)).2.2.2
 have key : ∀ (k : Nat) (z : WS × Nat), k ≤ (rulesL s).length → runO l.length ((rulesL s).take k) (st0 l) = some z → Bd l.length (9 * k) z := by
  intro k
  induction k with
  | zero => intro z _ hz; simp [runO] at hz; subst hz; exact st0_Bd hb.2
  | succ k ih =>
    intro z hk hz
    obtain ⟨x, hx⟩ := list_split (l := rulesL s) (k := k) (by omega)
    rcases hy : runO l.length ((rulesL s).take k) (st0 l) with _ | y
    · unfold runO at hy hz
      rw [List.take_add_one, hx, List.foldl_append, hy] at hz
      simp at hz
    · rw [runO_take hy hx] at hz
      have hxo := okW_rules hb.1 hx
      exact ((ih y (by omega) hy).it hxo _ _ hz).more (by have := hxo.1.2; omega)
 have hbd := key (rulesL s).length q (Nat.le_refl _) (by rw [List.take_of_length_le (Nat.le_refl _)]; exact h)
 exact ⟨hbd.1.2.1, (hbd.ms hn (by omega)).1⟩
set_option maxRecDepth 100000 in
set_option maxHeartbeats 2000000 in
theorem implRunRules_any (u lo : Int) (A : Option Addr) (n c : Nat) (l : List R2) (s : ByteArray) (w : World) (hs : s.size ≤ 16777216) (hn : n ≤ 1048576) (h : Reads w w.heap.size 2 A n (rowsV2 l)) :
 Calls Try.prog 7 #[.string s, frV u lo A n c] w (RetFrB w (runF u lo l s) (runOk u lo l s)) := by
 have hl := rows_len2 h
 have H := Lib.hid h
 have BRes := Lib.hid (Blk.born (w.alloc (.cells #[.int .i64 u, .int .i64 lo, .slice A n c] 26)) #[.int .i64 0, .int .i64 0, .slice none 0 0] 26 (H := w.heap.size + 1) (by simp))
 have hbx := Lib.hid (ext_alloc (ext_alloc (ext_refl w) (.cells #[.int .i64 u, .int .i64 lo, .slice A n c] 26)) (.cells #[.int .i64 0, .int .i64 0, .slice none 0 0] 26))
 cases hrb : runB u lo l s
 · rw [show runF u lo l s = (0, 0, []) by simp [runF, runOk, hrb], show runOk u lo l s = false by simp [runOk, hrb]]
   · have HB := Lib.hid hrb
     clear hrb hl
     go_enter Try.func7, Try.ntmps7
     go_wp2_with fail
     refine (play_no u lo A n c l s _ hs hn (rdx H.out hbx.out) HB.out).mono ?_
     rintro e w1 ⟨rfl, hb1⟩
     have BR1 := Lib.hid (BRes.out.ext hb1)
     have hb2 := Lib.hid (ext_trans hbx.out hb1)
     obtain ⟨r0, r1, r2⟩ := BR1.out.q3
     obtain ⟨z0, z1, z2⟩ := BR1.out.z3
     have hRl := BR1.out.lt
     clear hb1
     go_wp2
     refine bodyPost_ret (v := .tuple #[frV 0 0 none 0 0, .bool false]) (by simp [results, Try.results7, go_sem, *]) rfl ?_
     exact ⟨none, 0, rfl, World.ownsRow_nil _ _ _ _, fill_below hb2.out (Nat.le_succ _)⟩
 have h81 := rules_81 hrb
 have hdl := runD_le l s
 rcases hq : runQ l s with _ | q
 · rw [show runF u lo l s = (0, 0, []) by simp [runF, runOk, hq], show runOk u lo l s = false by simp [runOk, hq]]
   · have HB := Lib.hid hrb
     have HQ := Lib.hid hq
     have hless := rules_less hq
     clear hrb hl hq
     go_enter Try.func7, Try.ntmps7
     go_wp2_with fail
     refine (play_yes u lo A n c l s _ hs hn (rdx H.out hbx.out) HB.out).mono ?_
     rintro e w1 ⟨P, rfl, hq1, hb1⟩
     clear hq1
     have BR1 := Lib.hid (BRes.out.ext hb1)
     have hb2 := Lib.hid (ext_trans hbx.out hb1)
     obtain ⟨r0, r1, r2⟩ := BR1.out.q3
     obtain ⟨z0, z1, z2⟩ := BR1.out.z3
     have hRl := BR1.out.lt
     clear hb1
     go_wp2
     refine bodyPost_ret (v := .tuple #[frV 0 0 none 0 0, .bool false]) (by simp [results, Try.results7, go_sem, *]) rfl ?_
     exact ⟨none, 0, rfl, World.ownsRow_nil _ _ _ _, fill_below hb2.out (Nat.le_succ _)⟩
 · have heq := rules_all hq
   rw [show runF u lo l s = (u, lo, rodsD q.1.ds) by simp [runF, runOk, hrb, hq, runW], show runOk u lo l s = true by simp [runOk, hrb, hq]]
   · have HB := Lib.hid hrb
     have HQ := Lib.hid hq
     have heq' : ¬ runD l s < (rulesL s).length := by omega
     clear hrb hl hq heq
     go_enter Try.func7, Try.ntmps7
     go_wp2_with fail
     refine (play_yes u lo A n c l s _ hs hn (rdx H.out hbx.out) HB.out).mono ?_
     rintro e w1 ⟨P, rfl, hq1, hb1⟩
     obtain ⟨g, hPl, hW⟩ := hq1 q HQ.out
     obtain ⟨hh, cr, cm, Am, hB, _, hr, _⟩ := hW
     obtain ⟨q0, q1, q2, q3, q4⟩ := hB.q5
     obtain ⟨p0, p1⟩ := hPl.q2
     have hr := Lib.hid (own_base (base' := w.heap.size) hr hbx.out.size)
     have BR1 := Lib.hid (BRes.out.ext hb1)
     have hb2 := Lib.hid (ext_trans hbx.out hb1)
     obtain ⟨r0, r1, r2⟩ := BR1.out.q3
     obtain ⟨z0, z1, z2⟩ := BR1.out.z3
     have hRl := BR1.out.lt
     clear hb1 hB hPl hq1
     go_wp2
     refine bodyPost_ret (v := .tuple #[frV u lo (some ⟨hh, 0, none⟩) q.1.ds.length cr, .bool true]) (by simp [results, Try.results7, go_sem, *]) rfl ?_
     refine ⟨some ⟨hh, 0, none⟩, cr, by rw [rodsD_len], ?_, fill_below hb2.out (Nat.le_succ _)⟩
     rw [rodsD_len]
     exact fill_own' hr.out (own_nbT hr.out BR1.out (by decide))

set_option maxRecDepth 100000 in
set_option maxHeartbeats 2000000 in
theorem implCompiledMoves_any (u lo : Int) (A : Option Addr) (n c : Nat) (l : List R2) (s : ByteArray) (w : World) (hs : s.size ≤ 16777216) (hn : n ≤ 1048576) (h : Reads w w.heap.size 2 A n (rowsV2 l)) :
 Calls Try.prog 12 #[.string s, frV u lo A n c] w (RetMv w (cmpMs u lo l s) (cmpOk u lo l s)) := by
 have hl := rows_len2 h
 have H := Lib.hid h
 have hbx := Lib.hid (ext_alloc (ext_refl w) (.cells #[.int .i64 u, .int .i64 lo, .slice A n c] 26))
 cases hrb : runB u lo l s
 · rw [show cmpMs u lo l s = [] by simp [cmpMs, cmpOk, runOk, hrb], show cmpOk u lo l s = false by simp [cmpOk, runOk, hrb]]
   · have HB := Lib.hid hrb
     clear hrb hl
     go_enter Try.func12, Try.ntmps12
     go_wp2_with fail
     refine (play_no u lo A n c l s _ hs hn (rdx H.out hbx.out) HB.out).mono ?_
     rintro e w1 ⟨rfl, hb1⟩
     go_wp2
     go_ret2
     exact ⟨none, 0, rfl, World.ownsRow_nil _ _ _ _, ext_trans hbx.out hb1⟩
 have h81 := rules_81 hrb
 have hdl := runD_le l s
 rcases hq : runQ l s with _ | q
 · rw [show cmpMs u lo l s = [] by simp [cmpMs, cmpOk, runOk, hq], show cmpOk u lo l s = false by simp [cmpOk, runOk, hq]]
   · have HB := Lib.hid hrb
     have HQ := Lib.hid hq
     have hless := rules_less hq
     clear hrb hl hq
     go_enter Try.func12, Try.ntmps12
     go_wp2_with fail
     refine (play_yes u lo A n c l s _ hs hn (rdx H.out hbx.out) HB.out).mono ?_
     rintro e w1 ⟨P, rfl, hq1, hb1⟩
     clear hq1
     go_wp2
     go_ret2
     exact ⟨none, 0, rfl, World.ownsRow_nil _ _ _ _, ext_trans hbx.out hb1⟩
 · have heq := rules_all hq
   obtain ⟨_, hml⟩ := runQ_len hrb hq
   have heq' : ¬ runD l s < (rulesL s).length := by omega
   by_cases h60 : q.1.ms.length ≤ 60
   · rw [show cmpMs u lo l s = q.1.ms by simp [cmpMs, cmpOk, runOk, hrb, hq, runW, h60], show cmpOk u lo l s = true by simp [cmpOk, runOk, hrb, hq, runW, h60]]
     have HB := Lib.hid hrb
     have HQ := Lib.hid hq
     clear hrb hl hq heq
     go_enter Try.func12, Try.ntmps12
     go_wp2_with fail
     refine (play_yes u lo A n c l s _ hs hn (rdx H.out hbx.out) HB.out).mono ?_
     rintro e w1 ⟨P, rfl, hq1, hb1⟩
     obtain ⟨g, hPl, hW⟩ := hq1 q HQ.out
     obtain ⟨hh, cr, cm, Am, hB, _, _, hm⟩ := hW
     obtain ⟨q0, q1, q2, q3, q4⟩ := hB.q5
     obtain ⟨p0, p1⟩ := hPl.q2
     have hm := Lib.hid (own_base (base' := w.heap.size) hm hbx.out.size)
     clear hB hPl hq1
     go_wp2
     go_ret2
     exact ⟨Am, cm, rfl, hm.out, ext_trans hbx.out hb1⟩
   · rw [show cmpMs u lo l s = [] by simp [cmpMs, cmpOk, runOk, hrb, hq, runW, h60], show cmpOk u lo l s = false by simp [cmpOk, runOk, hrb, hq, runW, h60]]
     have HB := Lib.hid hrb
     have HQ := Lib.hid hq
     clear hrb hl hq heq
     go_enter Try.func12, Try.ntmps12
     go_wp2_with fail
     refine (play_yes u lo A n c l s _ hs hn (rdx H.out hbx.out) HB.out).mono ?_
     rintro e w1 ⟨P, rfl, hq1, hb1⟩
     obtain ⟨g, hPl, hW⟩ := hq1 q HQ.out
     obtain ⟨hh, cr, cm, Am, hB, _, _, hm⟩ := hW
     obtain ⟨q0, q1, q2, q3, q4⟩ := hB.q5
     obtain ⟨p0, p1⟩ := hPl.q2
     have hm := Lib.hid (own_base (base' := w.heap.size) hm hbx.out.size)
     clear hB hPl hq1
     go_wp2
     go_ret2
     exact ⟨none, 0, rfl, World.ownsRow_nil _ _ _ _, ext_trans hbx.out hb1⟩
set_option maxRecDepth 100000 in
set_option maxHeartbeats 2000000 in
theorem implFirstFailure_any (u lo : Int) (A : Option Addr) (n c : Nat) (l : List R2) (s : ByteArray) (w : World) (hs : s.size ≤ 16777216) (hn : n ≤ 1048576) (h : Reads w w.heap.size 2 A n (rowsV2 l)) :
 Calls Try.prog 16 #[.string s, frV u lo A n c] w (RetV (.tuple #[.int .i64 (ffV u lo l s), .bool (runB u lo l s)]) w) := by
 have hl := rows_len2 h
 have H := Lib.hid h
 have hbx := Lib.hid (ext_alloc (ext_refl w) (.cells #[.int .i64 u, .int .i64 lo, .slice A n c] 26))
 have h81 := fun hb => @rules_81 u lo l s hb
 have hdl := runD_le l s
 cases hrb : runB u lo l s
 · rw [show ffV u lo l s = 0 by simp [ffV, hrb]]
   have HB := Lib.hid hrb
   clear hrb h81 hdl hl
   go_enter Try.func16, Try.ntmps16
   go_wp2_with fail
   refine (play_no u lo A n c l s _ hs hn (rdx H.out hbx.out) HB.out).mono ?_
   rintro e w1 ⟨rfl, hb1⟩
   go_wp2
   go_ret2
   exact ⟨rfl, ext_trans hbx.out hb1⟩
 · rw [show ffV u lo l s = (runD l s : Int) by simp [ffV, hrb]]
   have h81 := h81 hrb
   have HB := Lib.hid hrb
   clear hrb hl
   go_enter Try.func16, Try.ntmps16
   go_wp2_with fail
   refine (play_yes u lo A n c l s _ hs hn (rdx H.out hbx.out) HB.out).mono ?_
   rintro e w1 ⟨P, rfl, hq1, hb1⟩
   clear hq1
   go_wp2
   go_ret2
   exact ⟨rfl, ext_trans hbx.out hb1⟩
end Go.Proofs.Ytihljhikhplegaa
namespace Go.Proofs.Ytihljhikhplegaa
open Go.RowKit
set_option linter.unusedVariables false
set_option linter.unusedSimpArgs false
theorem sto_plays {u lo : Int} {n : Nat} {w : RW} {p q : WS × Nat} (hh : headB u lo n = true) (hw : okW w) (hi : Inv n p) (h : stO n w p = some q) : Plays u lo p.1 q.1 := by
 obtain ⟨h1, h2, h3⟩ := hi
 have hd := okW_d hw
 have hh2 : headB u lo p.1.ds.length = true := by rw [h2]; exact hh
 unfold stO at h
 split at h
 · split at h
   · injection h with h; subst h; exact Plays.refl _ _ _
   · cases h
 split at h
 · split at h
   · injection h with h; subst h; exact Plays.refl _ _ _
   · cases h
 split at h
 · injection h with h; subst h
   exact Plays.turn p.1 _ hh2 h1 (by omega) (by omega)
 split at h
 · split at h
   · rename_i hc
     injection h with h; subst h
     exact addS_plays _ _ _ hh2 (canB_fit h1 h2 h3 hd hc)
   · cases h
 · split at h
   · rename_i hc
     injection h with h; subst h
     exact takeS_plays _ _ _ hh2 (canTB_fit h1 h2 h3 hd hc)
   · cases h
theorem ito_plays {u lo : Int} {n : Nat} {w : RW} (hh : headB u lo n = true) (hw : okW w) : ∀ (k : Nat) {p q : WS × Nat}, Inv n p → itO n w k p = some q → Inv n q ∧ Plays u lo p.1 q.1 := by
 intro k
 induction k with
 | zero => intro p q hi h; injection h with h; subst h; exact ⟨hi, Plays.refl _ _ _⟩
 | succ k ih =>
   intro p q hi h
   rw [itO] at h
   rcases hq : itO n w k p with _ | x
   · rw [hq] at h; cases h
   · rw [hq] at h
     obtain ⟨i1, p1⟩ := ih hi hq
     exact ⟨(stO_inv hw i1 h).1, p1.trans (sto_plays hh hw i1 h)⟩
theorem runO_plays {u lo : Int} {n : Nat} (hh : headB u lo n = true) : ∀ (ws : List RW) {p q : WS × Nat}, (∀ w ∈ ws, okW w) → Inv n p → runO n ws p = some q → Inv n q ∧ Plays u lo p.1 q.1 := by
 intro ws
 induction ws with
 | nil => intro p q _ hi h; injection h with h; subst h; exact ⟨hi, Plays.refl _ _ _⟩
 | cons w ws ih =>
   intro p q hw hi h
   rw [runO_cons] at h
   rcases hx : wdO n w p with _ | x
   · rw [hx] at h; cases h
   · rw [hx] at h
     obtain ⟨i1, p1⟩ := ito_plays hh (hw w (List.mem_cons_self ..)) _ hi hx
     obtain ⟨i2, p2⟩ := ih (fun w hw' => hw w (List.mem_cons_of_mem _ hw')) i1 h
     exact ⟨i2, p1.trans p2⟩
theorem rules_ok {s : ByteArray} (h : scrB s = true) : ∀ w ∈ rulesL s, okW w := by
 intro w hw
 unfold rulesL at hw
 obtain ⟨l, hl, rfl⟩ := List.mem_map.1 hw
 unfold scrB at h
 simp only [Bool.and_eq_true, List.all_eq_true] at h
 have := h.2 l hl
 unfold wd
 rcases ho : wordO l with _ | x
 · rw [ho] at this; cases this
 · exact wordO_ok ho
end Go.Proofs.Ytihljhikhplegaa
namespace Go.Proofs.Ytihljhikhplegaa
open Go.RowKit
set_option linter.unusedVariables false
set_option linter.unusedSimpArgs false
/-- words with blanks between them -/
def jnL : List (List UInt8) → List UInt8
 | [] => []
 | [w] => w
 | w :: v :: ws => w ++ 32 :: jnL (v :: ws)
theorem splitL_app {b : UInt8} {w : List UInt8} (h : b ∉ w) (l : List UInt8) : splitL b (w ++ b :: l) = w :: splitL b l := by
 induction w with
 | nil => exact splitL_hit b l
 | cons c w ih =>
   have hc : c ≠ b := fun e => h (by rw [e]; exact List.mem_cons_self ..)
   rw [List.cons_append, splitL_miss hc, ih (fun e => h (List.mem_cons_of_mem _ e))]
   rfl
theorem splitL_none {b : UInt8} {w : List UInt8} (h : b ∉ w) : splitL b w = [w] := by
 have h1 := (splitL_one b w).2 h
 have h0 := splitL_head b w
 have ht : w.takeWhile (· != b) = w := by
  clear h1 h0
  induction w with
  | nil => rfl
  | cons c w ih =>
    have hc : c ≠ b := fun e => h (by rw [e]; exact List.mem_cons_self ..)
    rw [List.takeWhile_cons, if_pos (by simpa using hc), ih (fun e => h (List.mem_cons_of_mem _ e))]
 rw [ht] at h0
 match hs : splitL b w, h1, h0 with
 | [x], _, h0 => simp at h0; rw [h0]
theorem split_jnL : ∀ ws : List (List UInt8), ws ≠ [] → (∀ w ∈ ws, (32 : UInt8) ∉ w) → splitL 32 (jnL ws) = ws := by
 intro ws
 induction ws with
 | nil => intro h; exact absurd rfl h
 | cons w ws ih =>
   intro _ h
   cases ws with
   | nil => exact splitL_none (h w (List.mem_cons_self ..))
   | cons v ws =>
     show splitL 32 (w ++ 32 :: jnL (v :: ws)) = _
     rw [splitL_app (h w (List.mem_cons_self ..)), ih (by simp) (fun x hx => h x (List.mem_cons_of_mem _ hx))]
theorem jnL_snoc : ∀ (ws : List (List UInt8)) (w : List UInt8), ws ≠ [] → jnL (ws ++ [w]) = jnL ws ++ 32 :: w := by
 intro ws
 induction ws with
 | nil => intro w h; exact absurd rfl h
 | cons x ws ih =>
   intro w _
   cases ws with
   | nil => rfl
   | cons v ws =>
     show x ++ 32 :: jnL ((v :: ws) ++ [w]) = (x ++ 32 :: jnL (v :: ws)) ++ 32 :: w
     rw [ih w (by simp)]
     simp
theorem bl_jnTo (ps : List ByteArray) : ∀ k, k ≤ ps.length → bl (jnTo ⟨#[32]⟩ ps k) = jnL ((ps.take k).map bl) := by
 intro k
 induction k with
 | zero => intro _; rw [jnTo_zero]; rfl
 | succ k ih =>
   intro hk
   obtain ⟨p, hp⟩ := list_split (l := ps) (k := k) (by omega)
   rcases Nat.eq_zero_or_pos k with h0 | h0
   · subst h0
     rw [jnTo_one hp, List.take_add_one, hp]
     rfl
   · rw [jnTo_succ hp h0, bl_append, bl_append, ih (by omega), List.take_add_one, hp]
     simp only [Option.toList, List.map_append, List.map_cons, List.map_nil]
     rw [jnL_snoc _ _ (by
      intro e
      have := congrArg List.length e
      rw [List.length_map, List.length_take, List.length_nil] at this
      omega)]
     show (_ ++ [32]) ++ bl p = _
     simp
/-- the words that add m, from the right; f: as many digits at most -/
def sfF : Nat → Nat → List (List UInt8)
 | 0, _ => []
 | f + 1, m => if m = 0 then [] else ((if m % 10 > 0 then [[43, dig (m % 10)]] else []) ++ (if m ≥ 10 then [[60]] else [])) ++ sfF f (m / 10)
theorem sfF_zero (f : Nat) : sfF f 0 = [] := by cases f <;> simp [sfF]
theorem sfF_step {f m : Nat} (h : 0 < m) : sfF (f + 1) m = ((if m % 10 > 0 then [[43, dig (m % 10)]] else []) ++ (if m ≥ 10 then [[60]] else [])) ++ sfF f (m / 10) := by rw [sfF, if_neg (by omega)]
theorem dig_ne {d : Nat} (h : d < 10) : dig d ≠ 32 := by
 unfold dig
 intro e
 have := congrArg UInt8.toNat e
 rw [UInt8.toNat_ofNat'] at this
 have h2 : (32 : UInt8).toNat = 32 := rfl
 omega
theorem sfF_blank : ∀ f m, ∀ w ∈ sfF f m, (32 : UInt8) ∉ w := by
 intro f
 induction f with
 | zero => intro m w hw; cases hw
 | succ f ih =>
   intro m w hw
   rw [sfF] at hw
   split at hw
   · cases hw
   · rcases List.mem_append.1 hw with hw | hw
     · rcases List.mem_append.1 hw with hw | hw
       · split at hw
         · simp only [List.mem_singleton] at hw
           subst hw
           have := dig_ne (d := m % 10) (by omega)
           simp only [List.mem_cons, List.not_mem_nil, or_false, not_or]
           exact ⟨by decide, fun e => this e.symm⟩
         · cases hw
       · split at hw
         · simp only [List.mem_singleton] at hw
           subst hw
           decide
         · cases hw
     · exact ih _ w hw
theorem sfF_len : ∀ f m, (sfF f m).length ≤ 2 * f := by
 intro f
 induction f with
 | zero => intro m; simp [sfF]
 | succ f ih =>
   intro m
   rw [sfF]
   have := ih (m / 10)
   split
   · simp
   · rw [List.length_append, List.length_append]
     split <;> split <;> simp <;> omega
def sfT (m : Nat) : ByteArray := str (jnL (sfF 8 m))
def spB (ws : List (List UInt8)) : List UInt8 := ws.flatMap fun w => w ++ [32]
theorem spB_app (a b : List (List UInt8)) : spB (a ++ b) = spB a ++ spB b := by simp [spB]
theorem spB_jnL : ∀ ws : List (List UInt8), ws ≠ [] → spB ws = jnL ws ++ [32] := by
 intro ws
 induction ws with
 | nil => intro h; exact absurd rfl h
 | cons w ws ih =>
   intro _
   cases ws with
   | nil => simp [spB, jnL]
   | cons v ws =>
     have := ih (by simp)
     show (w ++ [32]) ++ spB (v :: ws) = (w ++ 32 :: jnL (v :: ws)) ++ [32]
     rw [this]
     simp
def sfO (z : Int) : Option ByteArray := if inB z 0 99999999 = true then some (sfT z.toNat) else none
end Go.Proofs.Ytihljhikhplegaa
namespace Go.Proofs.Ytihljhikhplegaa
open Go.RowKit
set_option linter.unusedVariables false
set_option linter.unusedSimpArgs false
theorem dig_nat {d : Nat} (h : d < 10) : (dig d).toNat = 48 + d := by
 unfold dig
 rw [UInt8.toNat_ofNat']
 omega
theorem sf_word {d : Nat} (h : d < 10) (h0 : 0 < d) : wordO [43, dig d] = some ⟨1, 43, d⟩ := by
 have hn := dig_nat h
 unfold wordO
 dsimp only
 rw [if_neg (by
  rintro ⟨h1, _⟩
  exact absurd h1 (by decide))]
 have hp : plainO [43, dig d] = some (43, d) := by
  unfold plainO
  dsimp only
  rw [if_pos ⟨.inl rfl, by unfold digB; simp; omega⟩]
  congr 2
  omega
 rw [hp]; rfl
theorem sf_left : wordO [60] = some ⟨1, 60, 0⟩ := by
 unfold wordO
 dsimp only
 rw [if_neg (by rintro ⟨_, h⟩; exact h rfl)]
 rfl
/-- the rules that add m -/
def sfR : Nat → Nat → List RW
 | 0, _ => []
 | f + 1, m => if m = 0 then [] else ((if m % 10 > 0 then [⟨1, 43, m % 10⟩] else []) ++ (if m ≥ 10 then [⟨1, 60, 0⟩] else [])) ++ sfR f (m / 10)
theorem sfR_of : ∀ f m, (sfF f m).map wd = sfR f m ∧ ∀ w ∈ sfF f m, (wordO w).isSome = true := by
 intro f
 induction f with
 | zero => intro m; exact ⟨rfl, fun w hw => by cases hw⟩
 | succ f ih =>
   intro m
   obtain ⟨h1, h2⟩ := ih (m / 10)
   rw [sfF, sfR]
   by_cases h0 : m = 0
   · rw [if_pos h0, if_pos h0]; exact ⟨rfl, fun w hw => by cases hw⟩
   · rw [if_neg h0, if_neg h0, List.map_append, List.map_append, h1]
     have hd : m % 10 < 10 := by omega
     refine ⟨?_, ?_⟩
     · congr 2
       · split
         · rename_i hp
           show [wd [43, dig (m % 10)]] = _
           unfold wd
           rw [sf_word hd hp]; rfl
         · rfl
       · split
         · show [wd [60]] = _
           unfold wd
           rw [sf_left]; rfl
         · rfl
     · intro w hw
       rcases List.mem_append.1 hw with hw | hw
       · rcases List.mem_append.1 hw with hw | hw
         · split at hw
           · rename_i hp
             simp only [List.mem_singleton] at hw
             subst hw
             rw [sf_word hd hp]; rfl
           · cases hw
         · split at hw
           · simp only [List.mem_singleton] at hw
             subst hw
             rw [sf_left]; rfl
           · cases hw
       · exact h2 w hw
theorem sf_size : ∀ f m, (spB (sfF f m)).length ≤ 5 * f := by
 intro f
 induction f with
 | zero => intro m; simp [sfF, spB]
 | succ f ih =>
   intro m
   rw [sfF]
   have := ih (m / 10)
   split
   · simp [spB]
   · rw [spB_app, spB_app]
     simp only [List.length_append]
     split <;> split <;> simp [spB] at * <;> omega
/-- the words of the script -/
theorem sfT_words (m : Nat) : scrB (sfT m) = true ∧ rulesL (sfT m) = sfR 8 m := by
 obtain ⟨h1, h2⟩ := sfR_of 8 m
 have hsz : (sfT m).size ≤ 40 := by
  rw [← bl_size]
  unfold sfT
  rw [bl_str]
  by_cases he : sfF 8 m = []
  · rw [he]; simp [jnL]
  · have := sf_size 8 m
    rw [spB_jnL _ he, List.length_append] at this
    omega
 have hw : wordsL (sfT m) = sfF 8 m := by
  unfold wordsL
  by_cases he : sfF 8 m = []
  · rw [if_pos (by rw [← bl_size]; unfold sfT; rw [bl_str, he]; rfl), he]
  · rw [if_neg]
    · unfold sfT
      rw [bl_str, split_jnL _ he (fun w hw => sfF_blank 8 m w hw)]
    · intro h0
      rw [← bl_size] at h0
      unfold sfT at h0
      rw [bl_str] at h0
      have h0 := List.eq_nil_of_length_eq_zero h0
      have hx := split_jnL _ he (fun w hw => sfF_blank 8 m w hw)
      rw [h0] at hx
      have h3 := h2 [] (by rw [← hx]; simp [splitL])
      simp [wordO] at h3
 refine ⟨?_, ?_⟩
 · unfold scrB
   rw [hw]
   simp only [Bool.and_eq_true, decide_eq_true_eq, List.all_eq_true]
   exact ⟨by omega, h2⟩
 · unfold rulesL
   rw [hw, h1]
theorem numR_ds (ds : List Int) : numR (rodsD ds) = numD ds := by unfold numR; rw [dsOf_rodsD]
theorem sfR_zero (f : Nat) : sfR f 0 = [] := by cases f <;> simp [sfR]
theorem run_app (n : Nat) (a b : List RW) (p : WS × Nat) : runO n (a ++ b) p = (runO n a p).bind (runO n b) := by
 unfold runO
 rw [List.foldl_append]
 cases h : a.foldl (fun (o : Option (WS × Nat)) w => o.bind (wdO n w)) (some p) with
 | none => exact runO_none n b
 | some q => rfl
theorem st_plus {n r : Nat} {d : Nat} {s : WS} (hr : r < n) (hc : canB (rodsD s.ds) ((d : Int) * pw (n - (r + 1))) = true) : wdO n ⟨1, 43, d⟩ (s, r) = some (addS (r + 1) d s, r) := by
 unfold wdO
 show (itO n ⟨1, 43, d⟩ 0 (s, r)).bind (stO n ⟨1, 43, d⟩) = _
 show stO n ⟨1, 43, d⟩ (s, r) = _
 unfold stO
 dsimp only
 rw [if_neg (by decide), if_neg (by decide), if_neg (by decide), if_pos rfl, if_pos hc]
theorem st_left {n r : Nat} {s : WS} (hr : 0 < r) : wdO n ⟨1, 60, 0⟩ (s, r) = some (s, r - 1) := by
 show stO n ⟨1, 60, 0⟩ (s, r) = _
 unfold stO
 rw [if_pos rfl, if_pos hr]
theorem sf_run : ∀ (f m r : Nat) (s : WS), m < 10 ^ f → f = r + 1 → r < 8 → WF s.ds → s.ds.length = 8 → (∀ i, i ≤ r → s.ds.getD i 0 = 0) → numD s.ds < pw (7 - r) →
 ∃ s' r', runO 8 (sfR f m) (s, r) = some (s', r') ∧ s'.ds.length = 8 ∧ WF s'.ds ∧ numD s'.ds = numD s.ds + (m : Int) * pw (7 - r) := by
 intro f
 induction f with
 | zero => intro m r s _ h; omega
 | succ f ih =>
   intro m r s hm hf hr hw hl hz hn
   obtain rfl : f = r := by omega
   rw [sfR]
   by_cases h0 : m = 0
   · subst h0
     rw [if_pos rfl]
     exact ⟨s, f, rfl, hl, hw, by simp⟩
   rw [if_neg h0]
   have hd9 : m % 10 < 10 := by omega
   have hp := pw_pos (7 - f)
   -- the digit
   obtain ⟨s1, e1, l1, w1, z1, n1⟩ : ∃ s1, runO 8 (if m % 10 > 0 then [⟨1, 43, m % 10⟩] else []) (s, f) = some (s1, f) ∧ s1.ds.length = 8 ∧ WF s1.ds ∧ (∀ i, i < f → s1.ds.getD i 0 = 0) ∧ numD s1.ds = numD s.ds + ((m % 10 : Nat) : Int) * pw (7 - f) := by
    by_cases hd : m % 10 > 0
    · rw [if_pos hd]
      have hb := numD_bounds hw
      have hpp : pw (7 - f) * 10 = pw (8 - f) := by rw [show 8 - f = 7 - f + 1 by omega, pw_succ]; omega
      have hp8 : pw (8 - f) ≤ pw 8 := pw_le (by omega)
      have hle : ((m % 10 : Nat) : Int) * pw (7 - f) ≤ 9 * pw (7 - f) := Int.mul_le_mul_of_nonneg_right (by omega) (by omega)
      have hge : 0 ≤ ((m % 10 : Nat) : Int) * pw (7 - f) := Int.mul_nonneg (by omega) (by omega)
      have hc : canB (rodsD s.ds) (((m % 10 : Nat) : Int) * pw (8 - (f + 1))) = true := by
       unfold canB
       rw [rodsD_len, hl, numR_ds, show 8 - (f + 1) = 7 - f by omega]
       simp only [Bool.and_eq_true, inB_iff]
       omega
      have hg : s.ds.getD f 0 = 0 := hz f (Nat.le_refl _)
      have hadd : (addS (f + 1) ((m % 10 : Nat) : Int) s).ds = s.ds.set f ((m % 10 : Nat) : Int) := by
       rw [addS_pos s (by omega), hg]
       have q0 : (0 + ((m % 10 : Nat) : Int)) / 10 = 0 := by omega
       have q1 : (0 + ((m % 10 : Nat) : Int)) % 10 = ((m % 10 : Nat) : Int) := by omega
       rw [q0, q1, addS_none _ (by decide)]
      refine ⟨addS (f + 1) ((m % 10 : Nat) : Int) s, ?_, by rw [hadd, List.length_set]; exact hl, by rw [hadd]; exact hw.set _ (by omega) (by omega), ?_, ?_⟩
      · rw [runO_cons, st_plus hr hc]; rfl
      · intro i hi
        rw [hadd, List.getD_eq_getElem?_getD, List.getElem?_set_ne (by omega), ← List.getD_eq_getElem?_getD]
        exact hz i (by omega)
      · rw [hadd, numD_set _ _ _ (by omega), hg, hl, show 8 - (f + 1) = 7 - f by omega, Int.sub_zero]
    · rw [if_neg hd]
      have : m % 10 = 0 := by omega
      exact ⟨s, rfl, hl, hw, fun i hi => hz i (by omega), by rw [this]; simp⟩
   have hmm : (m : Int) = ((m % 10 : Nat) : Int) + 10 * ((m / 10 : Nat) : Int) := by omega
   by_cases h10 : m ≥ 10
   · rw [if_pos h10]
     have hf0 : 0 < f := by
      rcases Nat.eq_zero_or_pos f with h | h
      · subst h; omega
      · exact h
     obtain ⟨g, rfl⟩ : ∃ g, f = g + 1 := ⟨f - 1, by omega⟩
     have hpw : pw (7 - g) = 10 * pw (7 - (g + 1)) := by rw [show 7 - g = 7 - (g + 1) + 1 by omega, pw_succ]
     obtain ⟨s', r', e2, l2, w2, n2⟩ := ih (m / 10) g s1 (by rw [Nat.pow_succ] at hm; omega) rfl (by omega) w1 l1 (fun i hi => z1 i (by omega)) (by
      have hle : ((m % 10 : Nat) : Int) * pw (7 - (g + 1)) ≤ 9 * pw (7 - (g + 1)) := Int.mul_le_mul_of_nonneg_right (by omega) (by omega)
      rw [n1, hpw]
      omega)
     refine ⟨s', r', ?_, l2, w2, ?_⟩
     · rw [run_app, run_app, e1]
       show (runO 8 [⟨1, 60, 0⟩] (s1, g + 1)).bind (runO 8 (sfR (g + 1) (m / 10))) = _
       rw [runO_cons, st_left (by omega)]
       exact e2
     · rw [n2, n1, hpw]
       have h7 : ((m : Int)) * pw (7 - (g + 1)) = (((m % 10 : Nat) : Int) + 10 * ((m / 10 : Nat) : Int)) * pw (7 - (g + 1)) := by rw [← hmm]
       rw [h7, Int.add_mul, Int.mul_left_comm, Int.mul_assoc]
       omega
   · rw [if_neg h10]
     have h10z : m / 10 = 0 := by omega
     refine ⟨s1, f, ?_, l1, w1, ?_⟩
     · rw [run_app, run_app, e1, h10z]
       show (runO 8 [] (s1, f)).bind (runO 8 (sfR f 0)) = _
       rw [sfR_zero]; rfl
     · rw [n1]
       have : (m : Int) = ((m % 10 : Nat) : Int) := by omega
       rw [← this]
/-- the empty frame of eight rods -/
def zeros8 : List R2 := rodsD (List.replicate 8 0)
theorem sf_law (m : Nat) (hm : m < 10 ^ 8) : runOk 1 4 zeros8 (sfT m) = true ∧ numR (runW zeros8 (sfT m) |> fun s => rodsD s.ds) = (m : Int) ∧ (runW zeros8 (sfT m)).ds.length = 8 ∧ WF (runW zeros8 (sfT m)).ds := by
 obtain ⟨h1, h2⟩ := sfT_words m
 have hg : goodB 1 4 zeros8 = true := by decide
 have hst : st0 zeros8 = (⟨List.replicate 8 0, [], 0⟩, 7) := by
  unfold st0 zeros8
  rw [dsOf_rodsD]; rfl
 obtain ⟨s', r', e, l', w', n'⟩ := sf_run 8 m 7 ⟨List.replicate 8 0, [], 0⟩ hm rfl (by decide) (by intro d hd; have := List.eq_of_mem_replicate hd; omega) rfl (by
  intro i hi
  rw [List.getD_eq_getElem?_getD, List.getElem?_replicate]
  split <;> rfl) (by decide)
 have hq : runQ zeros8 (sfT m) = some (s', r') := by
  unfold runQ
  rw [h2, hst]
  exact e
 have hw : runW zeros8 (sfT m) = s' := by unfold runW; rw [hq]; rfl
 refine ⟨?_, ?_, by rw [hw]; exact l', by rw [hw]; exact w'⟩
 · unfold runOk runB
   rw [h1, hg, hq]; rfl
 · rw [hw]
   show numR (rodsD s'.ds) = _
   rw [numR_ds, n']
   show numD (List.replicate 8 0) + (m : Int) * pw 0 = _
   rw [pw_zero]
   have : numD (List.replicate 8 (0 : Int)) = 0 := by decide
   omega
end Go.Proofs.Ytihljhikhplegaa
namespace Go.Proofs.Ytihljhikhplegaa
open Go.RowKit
set_option linter.unusedVariables false
set_option linter.unusedSimpArgs false
def z16 : Array Value := #[.int .i64 0, .int .i64 0, .int .i64 0, .int .i64 0, .int .i64 0, .int .i64 0, .int .i64 0, .int .i64 0, .int .i64 0, .int .i64 0, .int .i64 0, .int .i64 0, .int .i64 0, .int .i64 0, .int .i64 0, .int .i64 0]
theorem made8 : (madeCells (Value.agg #[.int .i64 0, .int .i64 0]).cells (8 * 2)).toList = rowsV2 zeros8 := by
 rw [show madeCells (Value.agg #[.int .i64 0, .int .i64 0]).cells (8 * 2) = z16 by kernel_rfl]
 rfl
set_option maxRecDepth 100000 in
set_option maxHeartbeats 4000000 in
theorem frameFor8_any (w : World) : Calls Try.prog 21 #[.int .i64 1, .int .i64 4, .int .i64 8, .int .i64 0] w (RetFrB w (1, 4, zeros8) true) := by
 have BR0 := Lib.hid (Blk.born w #[.int .i64 0, .int .i64 0, .slice none 0 0] 26 (H := w.heap.size) rfl)
 have hbx := Lib.hid (ext_alloc (ext_refl w) (.cells #[.int .i64 0, .int .i64 0, .slice none 0 0] 26))
 have HZZ := Lib.hid (show rodsD (digs 8 0) = zeros8 by decide)
 have HZL := Lib.hid (show zeros8.length = 8 from rfl)
 go_enter Try.func21, Try.ntmps21
 go_wp2_with fail
 refine (within_b _ _ _ true _ (by decide)).mono ?_
 rintro e w1 ⟨rfl, hb⟩
 have BR1 := Lib.hid (BR0.out.ext hb)
 have HB1 := Lib.hid (ext_trans hbx.out hb)
 have hs1 := HB1.out.size
 have hlt1 := BR1.out.lt
 clear hb
 obtain ⟨i0, hi, hz0, hz1, hz2⟩ := info_parts info_rod
 go_wp2_with (at_make; refine wpList_make_full _ rfl _ _ 24 rfl w.heap.size 96 i0 _ 2 Try.underlying24 hi hz0 hz1 .i64 .i64 _ _ 8 rfl rfl rfl rfl (by rw [hz2]; omega) (by unfold maxLen; omega) (by omega) ?_; intro w2 hown0 hgrow0; have HO := Lib.hid hown0; have HGW := Lib.hid hgrow0; clear hown0 hgrow0)
 rw [made8] at HO
 have hb12 := Lib.hid ((ext_refl w1).grown HGW.out (Nat.le_refl _) (fun _ h => by cases h))
 obtain ⟨G, hG⟩ : ∃ G, G = w1.heap.size := ⟨_, rfl⟩
 rw [← hG] at HO ⊢
 obtain ⟨N, hN⟩ : ∃ N, N = w2.heap.size := ⟨_, rfl⟩
 obtain ⟨W, hW⟩ : ∃ y : World, y = w2.alloc (.cells #[.int .i64 1, .int .i64 4, .slice (some ⟨G, 0, none⟩) 8 8] 26) := ⟨_, rfl⟩
 have BN := Lib.hid (show Blk W N 26 #[.int .i64 1, .int .i64 4, .slice (some ⟨G, 0, none⟩) 8 8] by rw [hW]; exact Blk.born w2 _ 26 (H := N) hN)
 have BR := Lib.hid (show Blk W w.heap.size 26 #[.int .i64 0, .int .i64 0, .slice none 0 0] by rw [hW]; exact (BR1.out.ext hb12.out).al _)
 have HOW := Lib.hid (show W.ownsRow w.heap.size 96 2 (.slice (some ⟨G, 0, none⟩) 8 8) 8 (rowsV2 zeros8) by rw [hW]; exact HO.out.alloc _)
 have HB := Lib.hid (show Below w.heap.size w W by rw [hW]; exact ext_alloc (ext_trans HB1.out hb12.out) _)
 rw [← hN, ← hW]
 clear hG hN hW HO HGW hb12 BR1 HB1 hs1 hlt1 hi hz0 hz1 hz2 BR0 hbx
 have HF := Lib.hid (fun w h => isFrame_any 1 4 (some ⟨G, 0, none⟩) 8 8 zeros8 w (by decide) h)
 rw [show frB 1 4 zeros8 = true by decide] at HF
 have HT := Lib.hid (fun w => fitsOn_b 1 4 (some ⟨G, 0, none⟩) 8 8 0 true w (by decide) (by decide))
 have HS := Lib.hid (fun w h => showing_any 1 4 (some ⟨G, 0, none⟩) 8 8 zeros8 0 w (by decide) (by decide) (by decide) (by decide) h)
 rw [HZZ.out] at HS
 unfold RetSh at HS
 clear HZZ
 refine (HF.out _ (Reads.of_own HOW.out)).mono ?_
 rintro e w3 ⟨rfl, hb⟩
 have BN3 := Lib.hid (BN.out.ext hb)
 have BR3 := Lib.hid (BR.out.ext hb)
 have HO3 := Lib.hid (own_ext HOW.out hb)
 have HB3 := Lib.hid (ext_trans HB.out hb)
 clear hb BN BR HOW HB
 obtain ⟨p0, p1, p2⟩ := BN3.out.q3
 have ln := BN3.out.lt
 go_wp2_with fail
 refine (HT.out _).mono ?_
 rintro e w4 ⟨rfl, hb⟩
 have BN4 := Lib.hid (BN3.out.ext hb)
 have BR4 := Lib.hid (BR3.out.ext hb)
 have HO4 := Lib.hid (own_ext HO3.out hb)
 have HB4 := Lib.hid (ext_trans HB3.out hb)
 clear hb BN3 BR3 HO3 HB3 p0 p1 p2 ln
 obtain ⟨p0, p1, p2⟩ := BN4.out.q3
 have ln := BN4.out.lt
 go_wp2_with fail
 refine (HS.out _ (Reads.of_own HO4.out)).mono ?_
 rintro e w5 ⟨A, c, rfl, ho, hb⟩
 have BR5 := Lib.hid (BR4.out.ext hb)
 have HO5 := Lib.hid (own_base (base' := w.heap.size) ho HB4.out.size)
 have HB5 := Lib.hid (ext_trans HB4.out hb)
 clear hb ho BN4 BR4 HO4 HB4 p0 p1 p2 ln HF HT HS
 obtain ⟨r0, r1, r2⟩ := BR5.out.q3
 obtain ⟨y0, y1, y2⟩ := BR5.out.z3
 have lr := BR5.out.lt
 go_wp2
 refine bodyPost_ret (v := .tuple #[frV 1 4 A 8 c, .bool true]) (by simp [results, Try.results21, go_sem, *]) rfl ?_
 exact ⟨A, c, rfl, fill_own' HO5.out (own_nbT HO5.out BR5.out (by decide)), fill_below HB5.out (Nat.le_refl _)⟩
end Go.Proofs.Ytihljhikhplegaa
