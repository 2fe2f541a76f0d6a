/- RunRules, CompiledMoves, FirstFailure: the program's and the reference's. -/
import Derived.Test.YtihljhikhplegaaVRuH
import Derived.Test.YtihljhikhplegaaVM6
import Derived.Test.YtihljhikhplegaaVM1
import Derived.Test.YtihljhikhplegaaVM4
import Derived.Test.YtihljhikhplegaaVRvB
namespace Go.Proofs.Ytihljhikhplegaa
open Go.RowKit
set_option linter.unusedVariables false
set_option linter.unusedSimpArgs false
def runOk (u lo : Int) (l : List R2) (s : ByteArray) : Bool := runB u lo l s && (runQ l s).isSome
def runW (l : List R2) (s : ByteArray) : WS := ((runQ l s).getD (⟨[], [], 0⟩, 0)).1
def runF (u lo : Int) (l : List R2) (s : ByteArray) : Int × Int × List R2 := if runOk u lo l s = true then (u, lo, rodsD (runW l s).ds) else (0, 0, [])
def cmpOk (u lo : Int) (l : List R2) (s : ByteArray) : Bool := runOk u lo l s && decide ((runW l s).ms.length ≤ 60)
def cmpMs (u lo : Int) (l : List R2) (s : ByteArray) : List R3 := if cmpOk u lo l s = true then (runW l s).ms else []
def ffV (u lo : Int) (l : List R2) (s : ByteArray) : Int := if runB u lo l s = true then (runD l s : Int) else 0
theorem rules_less {l : List R2} {s : ByteArray} (h : runQ l s = none) : runD l s < (rulesL s).length := done_less h
theorem rules_all {l : List R2} {s : ByteArray} {q : WS × Nat} (h : runQ l s = some q) : runD l s = (rulesL s).length := done_all h
theorem rules_81 {u lo : Int} {l : List R2} {s : ByteArray} (h : runB u lo l s = true) : (rulesL s).length ≤ 81 := by
 rw [rulesL_len]
 have := wordsL_len s
 unfold runB scrB at h
 simp only [Bool.and_eq_true, decide_eq_true_eq] at h
 omega
theorem runD_le (l : List R2) (s : ByteArray) : runD l s ≤ (rulesL s).length := doneN_le _ _ _
theorem runW_some {l : List R2} {s : ByteArray} {q : WS × Nat} (h : runQ l s = some q) : runW l s = q.1 := by unfold runW; rw [h]; rfl
theorem runQ_len {u lo : Int} {l : List R2} {s : ByteArray} {q : WS × Nat} (hb : runB u lo l s = true) (h : runQ l s = some q) : q.1.ds.length = l.length ∧ q.1.ms.length ≤ 128000 := by
 have h81 := rules_81 hb
 unfold runB at hb
 simp only [Bool.and_eq_true] at hb
 have hn := (frB_head (good_fr hb.2)).2.2.2
 have key : ∀ (k : Nat) (z : WS × Nat), k ≤ (rulesL s).length → runO l.length ((rulesL s).take k) (st0 l) = some z → Bd l.length (9 * k) z := by
  intro k
  induction k with
  | zero => intro z _ hz; simp [runO] at hz; subst hz; exact st0_Bd hb.2
  | succ k ih =>
    intro z hk hz
    obtain ⟨x, hx⟩ := list_split (l := rulesL s) (k := k) (by omega)
    rcases hy : runO l.length ((rulesL s).take k) (st0 l) with _ | y
    · unfold runO at hy hz
      rw [List.take_add_one, hx, List.foldl_append, hy] at hz
      simp at hz
    · rw [runO_take hy hx] at hz
      have hxo := okW_rules hb.1 hx
      exact ((ih y (by omega) hy).it hxo _ _ hz).more (by have := hxo.1.2; omega)
 have hbd := key (rulesL s).length q (Nat.le_refl _) (by rw [List.take_of_length_le (Nat.le_refl _)]; exact h)
 exact ⟨hbd.1.2.1, (hbd.ms hn (by omega)).1⟩
set_option maxRecDepth 100000 in
set_option maxHeartbeats 2000000 in
theorem implRunRules_any (u lo : Int) (A : Option Addr) (n c : Nat) (l : List R2) (s : ByteArray) (w : World) (hs : s.size ≤ 16777216) (hn : n ≤ 1048576) (h : Reads w w.heap.size 2 A n (rowsV2 l)) :
 Calls Try.prog 7 #[.string s, frV u lo A n c] w (RetFrB w (runF u lo l s) (runOk u lo l s)) := by
 have hl := rows_len2 h
 have H := Lib.hid h
 have BRes := Lib.hid (Blk.born (w.alloc (.cells #[.int .i64 u, .int .i64 lo, .slice A n c] 26)) #[.int .i64 0, .int .i64 0, .slice none 0 0] 26 (H := w.heap.size + 1) (by simp))
 have hbx := Lib.hid (ext_alloc (ext_alloc (ext_refl w) (.cells #[.int .i64 u, .int .i64 lo, .slice A n c] 26)) (.cells #[.int .i64 0, .int .i64 0, .slice none 0 0] 26))
 cases hrb : runB u lo l s
 · rw [show runF u lo l s = (0, 0, []) by simp [runF, runOk, hrb], show runOk u lo l s = false by simp [runOk, hrb]]
   · have HB := Lib.hid hrb
     clear hrb hl
     go_enter Try.func7, Try.ntmps7
     go_wp2_with fail
     refine (play_no u lo A n c l s _ hs hn (rdx H.out hbx.out) HB.out).mono ?_
     rintro e w1 ⟨rfl, hb1⟩
     have BR1 := Lib.hid (BRes.out.ext hb1)
     have hb2 := Lib.hid (ext_trans hbx.out hb1)
     obtain ⟨r0, r1, r2⟩ := BR1.out.q3
     obtain ⟨z0, z1, z2⟩ := BR1.out.z3
     have hRl := BR1.out.lt
     clear hb1
     go_wp2
     refine bodyPost_ret (v := .tuple #[frV 0 0 none 0 0, .bool false]) (by simp [results, Try.results7, go_sem, *]) rfl ?_
     exact ⟨none, 0, rfl, World.ownsRow_nil _ _ _ _, fill_below hb2.out (Nat.le_succ _)⟩
 have h81 := rules_81 hrb
 have hdl := runD_le l s
 rcases hq : runQ l s with _ | q
 · rw [show runF u lo l s = (0, 0, []) by simp [runF, runOk, hq], show runOk u lo l s = false by simp [runOk, hq]]
   · have HB := Lib.hid hrb
     have HQ := Lib.hid hq
     have hless := rules_less hq
     clear hrb hl hq
     go_enter Try.func7, Try.ntmps7
     go_wp2_with fail
     refine (play_yes u lo A n c l s _ hs hn (rdx H.out hbx.out) HB.out).mono ?_
     rintro e w1 ⟨P, rfl, hq1, hb1⟩
     clear hq1
     have BR1 := Lib.hid (BRes.out.ext hb1)
     have hb2 := Lib.hid (ext_trans hbx.out hb1)
     obtain ⟨r0, r1, r2⟩ := BR1.out.q3
     obtain ⟨z0, z1, z2⟩ := BR1.out.z3
     have hRl := BR1.out.lt
     clear hb1
     go_wp2
     refine bodyPost_ret (v := .tuple #[frV 0 0 none 0 0, .bool false]) (by simp [results, Try.results7, go_sem, *]) rfl ?_
     exact ⟨none, 0, rfl, World.ownsRow_nil _ _ _ _, fill_below hb2.out (Nat.le_succ _)⟩
 · have heq := rules_all hq
   rw [show runF u lo l s = (u, lo, rodsD q.1.ds) by simp [runF, runOk, hrb, hq, runW], show runOk u lo l s = true by simp [runOk, hrb, hq]]
   · have HB := Lib.hid hrb
     have HQ := Lib.hid hq
     have heq' : ¬ runD l s < (rulesL s).length := by omega
     clear hrb hl hq heq
     go_enter Try.func7, Try.ntmps7
     go_wp2_with fail
     refine (play_yes u lo A n c l s _ hs hn (rdx H.out hbx.out) HB.out).mono ?_
     rintro e w1 ⟨P, rfl, hq1, hb1⟩
     obtain ⟨g, hPl, hW⟩ := hq1 q HQ.out
     obtain ⟨hh, cr, cm, Am, hB, _, hr, _⟩ := hW
     obtain ⟨q0, q1, q2, q3, q4⟩ := hB.q5
     obtain ⟨p0, p1⟩ := hPl.q2
     have hr := Lib.hid (own_base (base' := w.heap.size) hr hbx.out.size)
     have BR1 := Lib.hid (BRes.out.ext hb1)
     have hb2 := Lib.hid (ext_trans hbx.out hb1)
     obtain ⟨r0, r1, r2⟩ := BR1.out.q3
     obtain ⟨z0, z1, z2⟩ := BR1.out.z3
     have hRl := BR1.out.lt
     clear hb1 hB hPl hq1
     go_wp2
     refine bodyPost_ret (v := .tuple #[frV u lo (some ⟨hh, 0, none⟩) q.1.ds.length cr, .bool true]) (by simp [results, Try.results7, go_sem, *]) rfl ?_
     refine ⟨some ⟨hh, 0, none⟩, cr, by rw [rodsD_len], ?_, fill_below hb2.out (Nat.le_succ _)⟩
     rw [rodsD_len]
     exact fill_own' hr.out (own_nbT hr.out BR1.out (by decide))

set_option maxRecDepth 100000 in
set_option maxHeartbeats 2000000 in
theorem implCompiledMoves_any (u lo : Int) (A : Option Addr) (n c : Nat) (l : List R2) (s : ByteArray) (w : World) (hs : s.size ≤ 16777216) (hn : n ≤ 1048576) (h : Reads w w.heap.size 2 A n (rowsV2 l)) :
 Calls Try.prog 12 #[.string s, frV u lo A n c] w (RetMv w (cmpMs u lo l s) (cmpOk u lo l s)) := by
 have hl := rows_len2 h
 have H := Lib.hid h
 have hbx := Lib.hid (ext_alloc (ext_refl w) (.cells #[.int .i64 u, .int .i64 lo, .slice A n c] 26))
 cases hrb : runB u lo l s
 · rw [show cmpMs u lo l s = [] by simp [cmpMs, cmpOk, runOk, hrb], show cmpOk u lo l s = false by simp [cmpOk, runOk, hrb]]
   · have HB := Lib.hid hrb
     clear hrb hl
     go_enter Try.func12, Try.ntmps12
     go_wp2_with fail
     refine (play_no u lo A n c l s _ hs hn (rdx H.out hbx.out) HB.out).mono ?_
     rintro e w1 ⟨rfl, hb1⟩
     go_wp2
     go_ret2
     exact ⟨none, 0, rfl, World.ownsRow_nil _ _ _ _, ext_trans hbx.out hb1⟩
 have h81 := rules_81 hrb
 have hdl := runD_le l s
 rcases hq : runQ l s with _ | q
 · rw [show cmpMs u lo l s = [] by simp [cmpMs, cmpOk, runOk, hq], show cmpOk u lo l s = false by simp [cmpOk, runOk, hq]]
   · have HB := Lib.hid hrb
     have HQ := Lib.hid hq
     have hless := rules_less hq
     clear hrb hl hq
     go_enter Try.func12, Try.ntmps12
     go_wp2_with fail
     refine (play_yes u lo A n c l s _ hs hn (rdx H.out hbx.out) HB.out).mono ?_
     rintro e w1 ⟨P, rfl, hq1, hb1⟩
     clear hq1
     go_wp2
     go_ret2
     exact ⟨none, 0, rfl, World.ownsRow_nil _ _ _ _, ext_trans hbx.out hb1⟩
 · have heq := rules_all hq
   obtain ⟨_, hml⟩ := runQ_len hrb hq
   have heq' : ¬ runD l s < (rulesL s).length := by omega
   by_cases h60 : q.1.ms.length ≤ 60
   · rw [show cmpMs u lo l s = q.1.ms by simp [cmpMs, cmpOk, runOk, hrb, hq, runW, h60], show cmpOk u lo l s = true by simp [cmpOk, runOk, hrb, hq, runW, h60]]
     have HB := Lib.hid hrb
     have HQ := Lib.hid hq
     clear hrb hl hq heq
     go_enter Try.func12, Try.ntmps12
     go_wp2_with fail
     refine (play_yes u lo A n c l s _ hs hn (rdx H.out hbx.out) HB.out).mono ?_
     rintro e w1 ⟨P, rfl, hq1, hb1⟩
     obtain ⟨g, hPl, hW⟩ := hq1 q HQ.out
     obtain ⟨hh, cr, cm, Am, hB, _, _, hm⟩ := hW
     obtain ⟨q0, q1, q2, q3, q4⟩ := hB.q5
     obtain ⟨p0, p1⟩ := hPl.q2
     have hm := Lib.hid (own_base (base' := w.heap.size) hm hbx.out.size)
     clear hB hPl hq1
     go_wp2
     go_ret2
     exact ⟨Am, cm, rfl, hm.out, ext_trans hbx.out hb1⟩
   · rw [show cmpMs u lo l s = [] by simp [cmpMs, cmpOk, runOk, hrb, hq, runW, h60], show cmpOk u lo l s = false by simp [cmpOk, runOk, hrb, hq, runW, h60]]
     have HB := Lib.hid hrb
     have HQ := Lib.hid hq
     clear hrb hl hq heq
     go_enter Try.func12, Try.ntmps12
     go_wp2_with fail
     refine (play_yes u lo A n c l s _ hs hn (rdx H.out hbx.out) HB.out).mono ?_
     rintro e w1 ⟨P, rfl, hq1, hb1⟩
     obtain ⟨g, hPl, hW⟩ := hq1 q HQ.out
     obtain ⟨hh, cr, cm, Am, hB, _, _, hm⟩ := hW
     obtain ⟨q0, q1, q2, q3, q4⟩ := hB.q5
     obtain ⟨p0, p1⟩ := hPl.q2
     have hm := Lib.hid (own_base (base' := w.heap.size) hm hbx.out.size)
     clear hB hPl hq1
     go_wp2
     go_ret2
     exact ⟨none, 0, rfl, World.ownsRow_nil _ _ _ _, ext_trans hbx.out hb1⟩
set_option maxRecDepth 100000 in
set_option maxHeartbeats 2000000 in
theorem implFirstFailure_any (u lo : Int) (A : Option Addr) (n c : Nat) (l : List R2) (s : ByteArray) (w : World) (hs : s.size ≤ 16777216) (hn : n ≤ 1048576) (h : Reads w w.heap.size 2 A n (rowsV2 l)) :
 Calls Try.prog 16 #[.string s, frV u lo A n c] w (RetV (.tuple #[.int .i64 (ffV u lo l s), .bool (runB u lo l s)]) w) := by
 have hl := rows_len2 h
 have H := Lib.hid h
 have hbx := Lib.hid (ext_alloc (ext_refl w) (.cells #[.int .i64 u, .int .i64 lo, .slice A n c] 26))
 have h81 := fun hb => @rules_81 u lo l s hb
 have hdl := runD_le l s
 cases hrb : runB u lo l s
 · rw [show ffV u lo l s = 0 by simp [ffV, hrb]]
   have HB := Lib.hid hrb
   clear hrb h81 hdl hl
   go_enter Try.func16, Try.ntmps16
   go_wp2_with fail
   refine (play_no u lo A n c l s _ hs hn (rdx H.out hbx.out) HB.out).mono ?_
   rintro e w1 ⟨rfl, hb1⟩
   go_wp2
   go_ret2
   exact ⟨rfl, ext_trans hbx.out hb1⟩
 · rw [show ffV u lo l s = (runD l s : Int) by simp [ffV, hrb]]
   have h81 := h81 hrb
   have HB := Lib.hid hrb
   clear hrb hl
   go_enter Try.func16, Try.ntmps16
   go_wp2_with fail
   refine (play_yes u lo A n c l s _ hs hn (rdx H.out hbx.out) HB.out).mono ?_
   rintro e w1 ⟨P, rfl, hq1, hb1⟩
   clear hq1
   go_wp2
   go_ret2
   exact ⟨rfl, ext_trans hbx.out hb1⟩
end Go.Proofs.Ytihljhikhplegaa
namespace Go.Proofs.Ytihljhikhplegaa
open Go.RowKit
set_option linter.unusedVariables false
set_option linter.unusedSimpArgs false
/-- words with blanks between them -/
def jnL : List (List UInt8) → List UInt8
 | [] => []
 | [w] => w
 | w :: v :: ws => w ++ 32 :: jnL (v :: ws)
theorem splitL_app {b : UInt8} {w : List UInt8} (h : b ∉ w) (l : List UInt8) : splitL b (w ++ b :: l) = w :: splitL b l := by
 induction w with
 | nil => exact splitL_hit b l
 | cons c w ih =>
   have hc : c ≠ b := fun e => h (by rw [e]; exact List.mem_cons_self ..)
   rw [List.cons_append, splitL_miss hc, ih (fun e => h (List.mem_cons_of_mem _ e))]
   rfl
theorem splitL_none {b : UInt8} {w : List UInt8} (h : b ∉ w) : splitL b w = [w] := by
 have h1 := (splitL_one b w).2 h
 have h0 := splitL_head b w
 have ht : w.takeWhile (· != b) = w := by
  clear h1 h0
  induction w with
  | nil => rfl
  | cons c w ih =>
    have hc : c ≠ b := fun e => h (by rw [e]; exact List.mem_cons_self ..)
    rw [List.takeWhile_cons, if_pos (by simpa using hc), ih (fun e => h (List.mem_cons_of_mem _ e))]
 rw [ht] at h0
 match hs : splitL b w, h1, h0 with
 | [x], _, h0 => simp at h0; rw [h0]
theorem split_jnL : ∀ ws : List (List UInt8), ws ≠ [] → (∀ w ∈ ws, (32 : UInt8) ∉ w) → splitL 32 (jnL ws) = ws := by
 intro ws
 induction ws with
 | nil => intro h; exact absurd rfl h
 | cons w ws ih =>
   intro _ h
   cases ws with
   | nil => exact splitL_none (h w (List.mem_cons_self ..))
   | cons v ws =>
     show splitL 32 (w ++ 32 :: jnL (v :: ws)) = _
     rw [splitL_app (h w (List.mem_cons_self ..)), ih (by simp) (fun x hx => h x (List.mem_cons_of_mem _ hx))]
theorem jnL_snoc : ∀ (ws : List (List UInt8)) (w : List UInt8), ws ≠ [] → jnL (ws ++ [w]) = jnL ws ++ 32 :: w := by
 intro ws
 induction ws with
 | nil => intro w h; exact absurd rfl h
 | cons x ws ih =>
   intro w _
   cases ws with
   | nil => rfl
   | cons v ws =>
     show x ++ 32 :: jnL ((v :: ws) ++ [w]) = (x ++ 32 :: jnL (v :: ws)) ++ 32 :: w
     rw [ih w (by simp)]
     simp
theorem bl_jnTo (ps : List ByteArray) : ∀ k, k ≤ ps.length → bl (jnTo ⟨#[32]⟩ ps k) = jnL ((ps.take k).map bl) := by
 intro k
 induction k with
 | zero => intro _; rw [jnTo_zero]; rfl
 | succ k ih =>
   intro hk
   obtain ⟨p, hp⟩ := list_split (l := ps) (k := k) (by omega)
   rcases Nat.eq_zero_or_pos k with h0 | h0
   · subst h0
     rw [jnTo_one hp, List.take_add_one, hp]
     rfl
   · rw [jnTo_succ hp h0, bl_append, bl_append, ih (by omega), List.take_add_one, hp]
     simp only [Option.toList, List.map_append, List.map_cons, List.map_nil]
     rw [jnL_snoc _ _ (by
      intro e
      have := congrArg List.length e
      rw [List.length_map, List.length_take, List.length_nil] at this
      omega)]
     show (_ ++ [32]) ++ bl p = _
     simp
/-- the words that add m, from the right; f: as many digits at most -/
def sfF : Nat → Nat → List (List UInt8)
 | 0, _ => []
 | f + 1, m => if m = 0 then [] else ((if m % 10 > 0 then [[43, dig (m % 10)]] else []) ++ (if m ≥ 10 then [[60]] else [])) ++ sfF f (m / 10)
theorem sfF_zero (f : Nat) : sfF f 0 = [] := by cases f <;> simp [sfF]
theorem sfF_step {f m : Nat} (h : 0 < m) : sfF (f + 1) m = ((if m % 10 > 0 then [[43, dig (m % 10)]] else []) ++ (if m ≥ 10 then [[60]] else [])) ++ sfF f (m / 10) := by rw [sfF, if_neg (by omega)]
theorem dig_ne {d : Nat} (h : d < 10) : dig d ≠ 32 := by
 unfold dig
 intro e
 have := congrArg UInt8.toNat e
 rw [UInt8.toNat_ofNat'] at this
 have h2 : (32 : UInt8).toNat = 32 := rfl
 omega
theorem sfF_blank : ∀ f m, ∀ w ∈ sfF f m, (32 : UInt8) ∉ w := by
 intro f
 induction f with
 | zero => intro m w hw; cases hw
 | succ f ih =>
   intro m w hw
   rw [sfF] at hw
   split at hw
   · cases hw
   · rcases List.mem_append.1 hw with hw | hw
     · rcases List.mem_append.1 hw with hw | hw
       · split at hw
         · simp only [List.mem_singleton] at hw
           subst hw
           have := dig_ne (d := m % 10) (by omega)
           simp only [List.mem_cons, List.not_mem_nil, or_false, not_or]
           exact ⟨by decide, fun e => this e.symm⟩
         · cases hw
       · split at hw
         · simp only [List.mem_singleton] at hw
           subst hw
           decide
         · cases hw
     · exact ih _ w hw
theorem sfF_len : ∀ f m, (sfF f m).length ≤ 2 * f := by
 intro f
 induction f with
 | zero => intro m; simp [sfF]
 | succ f ih =>
   intro m
   rw [sfF]
   have := ih (m / 10)
   split
   · simp
   · rw [List.length_append, List.length_append]
     split <;> split <;> simp <;> omega
def sfT (m : Nat) : ByteArray := str (jnL (sfF 8 m))
def spB (ws : List (List UInt8)) : List UInt8 := ws.flatMap fun w => w ++ [32]
theorem spB_app (a b : List (List UInt8)) : spB (a ++ b) = spB a ++ spB b := by simp [spB]
theorem spB_jnL : ∀ ws : List (List UInt8), ws ≠ [] → spB ws = jnL ws ++ [32] := by
 intro ws
 induction ws with
 | nil => intro h; exact absurd rfl h
 | cons w ws ih =>
   intro _
   cases ws with
   | nil => simp [spB, jnL]
   | cons v ws =>
     have := ih (by simp)
     show (w ++ [32]) ++ spB (v :: ws) = (w ++ 32 :: jnL (v :: ws)) ++ [32]
     rw [this]
     simp
def sfO (z : Int) : Option ByteArray := if inB z 0 99999999 = true then some (sfT z.toNat) else none
end Go.Proofs.Ytihljhikhplegaa
namespace Go.Proofs.Ytihljhikhplegaa
open Go.RowKit
set_option linter.unusedVariables false
set_option linter.unusedSimpArgs false
def turnC (c : UInt8) : UInt8 := if c = 43 then 45 else if c = 45 then 43 else if c = 60 then 62 else if c = 62 then 60 else c
def turnW (l : List UInt8) : List UInt8 := l.map turnC
theorem turnC_turnC (c : UInt8) : turnC (turnC c) = c := by
 unfold turnC
 by_cases h1 : c = 43
 · subst h1; decide
 by_cases h2 : c = 45
 · subst h2; decide
 by_cases h3 : c = 60
 · subst h3; decide
 by_cases h4 : c = 62
 · subst h4; decide
 rw [if_neg h1, if_neg h2, if_neg h3, if_neg h4, if_neg h1, if_neg h2, if_neg h3, if_neg h4]
theorem turnW_turnW (l : List UInt8) : turnW (turnW l) = l := by
 unfold turnW
 rw [List.map_map]
 conv => rhs; rw [← List.map_id l]
 exact List.map_congr_left fun c _ => turnC_turnC c
theorem turnC_eq {c d : UInt8} (h : turnC c = d) : c = turnC d := by rw [← h, turnC_turnC]
theorem turnC_other {c d : UInt8} (hd : turnC d = d) : turnC c = d ↔ c = d := ⟨fun h => by rw [turnC_eq h, hd], fun h => by rw [h, hd]⟩
/-- jnL undoes splitL -/
theorem jnL_glue (pre : List UInt8) {P : List (List UInt8)} (h : P ≠ []) : jnL (glue pre P) = pre ++ jnL P := by
 cases P with
 | nil => exact absurd rfl h
 | cons x P =>
   cases P with
   | nil => rfl
   | cons y P => show (pre ++ x) ++ 32 :: jnL (y :: P) = pre ++ (x ++ 32 :: jnL (y :: P)); simp
theorem jnL_cons (w : List UInt8) {P : List (List UInt8)} (h : P ≠ []) : jnL (w :: P) = w ++ 32 :: jnL P := by
 cases P with
 | nil => exact absurd rfl h
 | cons x P => rfl
theorem jnL_split : ∀ l : List UInt8, jnL (splitL 32 l) = l := by
 intro l
 induction l with
 | nil => rfl
 | cons c l ih =>
   by_cases h : c = 32
   · subst h
     rw [splitL_hit, jnL_cons _ (splitL_ne 32 l), ih]
     rfl
   · rw [splitL_miss h, jnL_glue _ (splitL_ne 32 l), ih]
     rfl
theorem splitL_free : ∀ l : List UInt8, ∀ w ∈ splitL 32 l, (32 : UInt8) ∉ w := by
 intro l
 induction l with
 | nil => intro w hw; simp [splitL] at hw; subst hw; simp
 | cons c l ih =>
   intro w hw
   by_cases h : c = 32
   · subst h
     rw [splitL_hit] at hw
     rcases List.mem_cons.1 hw with rfl | hw
     · simp
     · exact ih w hw
   · rw [splitL_miss h] at hw
     cases hs : splitL 32 l with
     | nil => exact absurd hs (splitL_ne 32 l)
     | cons x P =>
       rw [hs] at hw ih
       rcases List.mem_cons.1 hw with rfl | hw
       · have := ih x (List.mem_cons_self ..)
         intro e
         rcases List.mem_cons.1 e with e | e
         · exact h e.symm
         · exact this e
       · exact ih w (List.mem_cons_of_mem _ hw)
/-- the opposite words -/
def invW (s : ByteArray) : List (List UInt8) := (wordsL s).reverse.map turnW
def cFree (s : ByteArray) : Bool := (rulesL s).all fun x => decide (x.what ≠ 99)
def invO (s : ByteArray) : Option ByteArray := if scrB s = true ∧ cFree s = true then some (str (jnL (invW s))) else none
theorem words_free (s : ByteArray) : ∀ w ∈ wordsL s, (32 : UInt8) ∉ w := by
 intro w hw
 unfold wordsL at hw
 split at hw
 · cases hw
 · exact splitL_free _ w hw
theorem jnL_words (s : ByteArray) : jnL (wordsL s) = bl s := by
 unfold wordsL
 split
 · rename_i h
   rw [(List.length_eq_zero_iff (l := bl s)).1 (by rw [bl_size]; exact h)]; rfl
 · exact jnL_split _
theorem invW_free (s : ByteArray) : ∀ w ∈ invW s, (32 : UInt8) ∉ w := by
 intro w hw
 unfold invW at hw
 obtain ⟨v, hv, rfl⟩ := List.mem_map.1 hw
 have := words_free s v (List.mem_reverse.1 hv)
 intro e
 unfold turnW at e
 obtain ⟨c, hc, he⟩ := List.mem_map.1 e
 rw [turnC_other (by decide)] at he
 subst he
 exact this hc
def lenS (ws : List (List UInt8)) : Nat := (ws.map List.length).sum
theorem jnL_len : ∀ ws : List (List UInt8), (jnL ws).length = lenS ws + (ws.length - 1) := by
 intro ws
 induction ws with
 | nil => rfl
 | cons w ws ih =>
   cases ws with
   | nil => simp [jnL, lenS]
   | cons v ws =>
     show (w ++ 32 :: jnL (v :: ws)).length = _
     rw [List.length_append, List.length_cons, ih]
     simp [lenS]
     omega
theorem lenS_inv (ws : List (List UInt8)) : lenS (ws.reverse.map turnW) = lenS ws := by
 unfold lenS
 rw [List.map_map, show (List.length ∘ turnW) = (List.length : List UInt8 → Nat) from funext fun l => by simp [turnW]]
 rw [List.map_reverse, List.sum_reverse]
theorem digB_turn (c : UInt8) : digB (turnC c) = digB c := by
 unfold turnC
 by_cases h1 : c = 43
 · subst h1; decide
 by_cases h2 : c = 45
 · subst h2; decide
 by_cases h3 : c = 60
 · subst h3; decide
 by_cases h4 : c = 62
 · subst h4; decide
 rw [if_neg h1, if_neg h2, if_neg h3, if_neg h4]
theorem turn_dig {c : UInt8} (h : 48 ≤ c.toNat ∧ c.toNat ≤ 57) : turnC c = c := by
 unfold turnC
 rw [if_neg (by rintro rfl; exact absurd h.1 (by decide)), if_neg (by rintro rfl; exact absurd h.1 (by decide)), if_neg (by rintro rfl; exact absurd h.2 (by decide)), if_neg (by rintro rfl; exact absurd h.2 (by decide))]
/-- what the opposite of a plain word tells -/
theorem plain_turn {l : List UInt8} {c : UInt8} {d : Nat} (h : plainO l = some (c, d)) : plainO (turnW l) = some (turnC c, d) := by
 unfold plainO at h
 split at h
 · rename_i x
   split at h
   · rename_i hx
     injection h with h
     injection h with h1 h2
     subst h1 h2
     show plainO [turnC x] = _
     unfold plainO
     dsimp only
     rw [if_pos]
     rcases hx with rfl | rfl | rfl
     · exact .inr (.inl (by decide))
     · exact .inl (by decide)
     · exact .inr (.inr (by decide))
   · cases h
 · rename_i x y
   split at h
   · rename_i hx
     injection h with h
     injection h with h1 h2
     subst h1 h2
     have hy := hx.2
     unfold digB at hy
     simp only [decide_eq_true_eq] at hy
     have hty : turnC y = y := turn_dig ⟨by omega, by omega⟩
     show plainO [turnC x, turnC y] = _
     rw [hty]
     unfold plainO
     dsimp only
     rw [if_pos]
     refine ⟨?_, hx.2⟩
     rcases hx.1 with rfl | rfl
     · exact .inr (by decide)
     · exact .inl (by decide)
   · cases h
 · cases h
theorem word_turn {l : List UInt8} {x : RW} (h : wordO l = some x) : wordO (turnW l) = some ⟨x.times, turnC x.what, x.digit⟩ := by
 unfold wordO at h
 split at h
 · cases h
 · rename_i c rest
   show wordO (turnC c :: turnW rest) = _
   split at h
   · rename_i hc
     have hr := hc.1
     unfold repB at hr
     simp only [decide_eq_true_eq] at hr
     have htc : turnC c = c := turn_dig ⟨by omega, by omega⟩
     rcases hp : plainO rest with _ | ⟨a, b⟩
     · rw [hp] at h; cases h
     rw [hp] at h
     injection h with h
     subst h
     rw [htc]
     unfold wordO
     dsimp only
     rw [if_pos ⟨hc.1, by
      intro e
      have := congrArg turnW e
      rw [turnW_turnW] at this
      exact hc.2 this⟩, plain_turn hp]
     rfl
   · rename_i hc
     rcases hp : plainO (c :: rest) with _ | ⟨a, b⟩
     · rw [hp] at h; cases h
     rw [hp] at h
     injection h with h
     subst h
     unfold wordO
     dsimp only
     rw [if_neg (by
      rintro ⟨h1, h2⟩
      unfold repB at h1
      simp only [decide_eq_true_eq] at h1
      have htc : turnC (turnC c) = turnC c := turn_dig ⟨by omega, by omega⟩
      rw [turnC_turnC] at htc
      refine hc ⟨?_, fun e => h2 (by rw [e]; rfl)⟩
      unfold repB
      rw [htc]
      simpa using h1), show turnC c :: turnW rest = turnW (c :: rest) from rfl, plain_turn hp]
     rfl
theorem rules_map (s : ByteArray) : rulesL s = (wordsL s).map wd := rfl
/-- the opposite of a script: its words, its rules -/
theorem inv_facts {s : ByteArray} (h : scrB s = true) : wordsL (str (jnL (invW s))) = invW s ∧ scrB (str (jnL (invW s))) = true ∧ rulesL (str (jnL (invW s))) = (rulesL s).reverse.map fun x => ⟨x.times, turnC x.what, x.digit⟩ := by
 have h0 := h
 unfold scrB at h
 simp only [Bool.and_eq_true, decide_eq_true_eq, List.all_eq_true] at h
 obtain ⟨hs, hall⟩ := h
 have hword : ∀ w ∈ wordsL s, ∃ x, wordO w = some x := fun w hw => Option.isSome_iff_exists.1 (hall w hw)
 have hw : wordsL (str (jnL (invW s))) = invW s := by
  unfold wordsL
  by_cases he : invW s = []
  · rw [he]; rfl
  · rw [if_neg, bl_str, split_jnL _ he (invW_free s)]
    intro h1
    rw [← bl_size, bl_str] at h1
    have h1 := List.eq_nil_of_length_eq_zero h1
    have h2 := split_jnL _ he (invW_free s)
    rw [h1] at h2
    have h3 : ([] : List UInt8) ∈ invW s := by rw [← h2]; simp [splitL]
    unfold invW at h3
    obtain ⟨v, hv, h4⟩ := List.mem_map.1 h3
    have : v = [] := by
     have := congrArg turnW h4
     rw [turnW_turnW] at this
     exact this
    subst this
    obtain ⟨x, hx⟩ := hword [] (List.mem_reverse.1 hv)
    simp [wordO] at hx
 refine ⟨hw, ?_, ?_⟩
 · unfold scrB
   rw [hw]
   simp only [Bool.and_eq_true, decide_eq_true_eq, List.all_eq_true]
   refine ⟨?_, ?_⟩
   · rw [← bl_size, bl_str, jnL_len]
     have h1 := jnL_len (wordsL s)
     rw [jnL_words, bl_size] at h1
     unfold invW
     rw [lenS_inv]
     simp only [List.length_map, List.length_reverse]
     omega
   · intro w hw2
     unfold invW at hw2
     obtain ⟨v, hv, rfl⟩ := List.mem_map.1 hw2
     obtain ⟨x, hx⟩ := hword v (List.mem_reverse.1 hv)
     rw [word_turn hx]; rfl
 · rw [rules_map, hw, rules_map]
   unfold invW
   rw [List.map_map, ← List.map_reverse, List.map_map]
   refine List.map_congr_left fun v hv => ?_
   obtain ⟨x, hx⟩ := hword v (List.mem_reverse.1 hv)
   show wd (turnW v) = _
   unfold wd
   rw [word_turn hx]
   show _ = (fun x : RW => (⟨x.times, turnC x.what, x.digit⟩ : RW)) ((wordO v).getD ⟨1, 99, 0⟩)
   rw [hx]; rfl
/-- the inverse of an inverse is the script -/
theorem inv_inv {s t : ByteArray} (h : invO s = some t) : invO t = some s ∧ wnV t = wnV s ∧ scrB s = true ∧ scrB t = true := by
 unfold invO at h
 split at h
 · rename_i hh
   obtain ⟨h1, h2⟩ := hh
   injection h with h
   subst h
   obtain ⟨e1, e2, e3⟩ := inv_facts h1
   refine ⟨?_, ?_, h1, e2⟩
   · have hc : cFree (str (jnL (invW s))) = true := by
      unfold cFree at *
      rw [e3]
      simp only [List.all_eq_true, decide_eq_true_eq] at *
      intro x hx
      obtain ⟨y, hy, rfl⟩ := List.mem_map.1 hx
      have := h2 y (List.mem_reverse.1 hy)
      show turnC y.what ≠ 99
      intro e
      exact this ((turnC_other (by decide)).1 e)
     unfold invO
     rw [if_pos ⟨e2, hc⟩]
     · congr 1
       have : invW (str (jnL (invW s))) = wordsL s := by
        unfold invW at *
        rw [e1, ← List.map_reverse, List.reverse_reverse, List.map_map]
        conv => rhs; rw [← List.map_id (wordsL s)]
        exact List.map_congr_left fun l _ => turnW_turnW l
       rw [this, jnL_words, str_bl]
   · unfold wnV
     rw [if_pos h1, if_pos e2, e3]
     unfold wnL
     rw [List.take_length, List.take_length, List.map_map]
     congr 1
     show (((rulesL s).reverse.map RW.times)).sum = _
     rw [List.map_reverse, List.sum_reverse]
 · cases h
end Go.Proofs.Ytihljhikhplegaa
namespace Go.Proofs.Ytihljhikhplegaa
open Go.RowKit
set_option linter.unusedVariables false
set_option linter.unusedSimpArgs false
/-- the first k bytes turned -/
def mixT (l : List UInt8) (k : Nat) : List UInt8 := turnW (l.take k) ++ l.drop k
theorem mixT_zero (l : List UInt8) : mixT l 0 = l := by simp [mixT, turnW]
theorem mixT_all (l : List UInt8) : mixT l l.length = turnW l := by simp [mixT]
theorem mixT_getD (l : List UInt8) (k : Nat) : (mixT l k).getD k 0 = l.getD k 0 := by
 unfold mixT turnW
 rw [List.getD_eq_getElem?_getD, List.getD_eq_getElem?_getD]
 rcases Nat.lt_or_ge k l.length with h | h
 · rw [List.getElem?_append_right (by simp; omega)]
   simp only [List.length_map, List.length_take, List.getElem?_drop]
   congr 2
   omega
 · rw [List.getElem?_eq_none (by simp; omega), List.getElem?_eq_none h]
theorem mixT_set {l : List UInt8} {k : Nat} {x : UInt8} (h : k < l.length) (hx : l.getD k 0 = x) : (mixT l k).set k (turnC x) = mixT l (k + 1) := by
 have hg : l[k]? = some x := by
  rw [List.getElem?_eq_getElem h]
  rw [List.getD_eq_getElem?_getD, List.getElem?_eq_getElem h] at hx
  simpa using hx
 unfold mixT turnW
 rw [List.set_append_right _ _ (by simp; omega), List.take_add_one, hg]
 simp only [List.length_map, List.length_take, Option.toList, List.map_append, List.map_cons, List.map_nil, List.append_assoc]
 congr 1
 rw [show k - min k l.length = 0 by omega]
 rw [List.drop_eq_getElem_cons h]
 rw [List.getElem?_eq_getElem h] at hg
 rw [List.set_cons_zero]
 rfl
theorem set_getD {l : List UInt8} {k : Nat} {x : UInt8} (h : l.getD k 0 = x) : l.set k x = l := by
 refine List.ext_getElem? fun i => ?_
 by_cases e : i = k
 · subst e
   rcases Nat.lt_or_ge i l.length with hl | hl
   · rw [List.getElem?_set_self hl]
     rw [List.getD_eq_getElem?_getD, List.getElem?_eq_getElem hl] at h
     rw [List.getElem?_eq_getElem hl]
     simpa using h.symm
   · rw [List.getElem?_eq_none (by simp; omega), List.getElem?_eq_none hl]
 · rw [List.getElem?_set_ne (fun e2 => e e2.symm)]
theorem bl_getD {s : ByteArray} {k : Nat} (h : k < s.size) : (bl s).getD k 0 = s[k]'h := by
 unfold bl
 rw [List.getD_eq_getElem?_getD, Array.getElem?_toList, Array.getElem?_eq_getElem (by exact h)]
 rfl
set_option maxRecDepth 100000 in
set_option maxHeartbeats 4000000 in
theorem l15Turned_any (s : ByteArray) (w : World) (hs : s.size ≤ 80) : Calls Try.prog 58 #[.string s] w fun e w' => e = .returned (.string (str (turnW (bl s)))) ∧ Below w.heap.size w w' := by
 have kc := Lib.run_convert_string_bytes (P := Try.prog) w 9 22 5 s Try.underlying9 Try.underlying22 Try.underlying5
 have HT0 := Lib.hid (TbAt.made w 5 s)
 have HB0 := Lib.hid (tb_below w 5 s)
 obtain ⟨cap, hcap⟩ : ∃ c, grownCap w s.size 0 5 = c := ⟨_, rfl⟩
 obtain ⟨W, hW⟩ : ∃ y, Lib.bytesWorld w 5 s = y := ⟨_, rfl⟩
 obtain ⟨n, hn⟩ : ∃ y, s.size = y := ⟨_, rfl⟩
 rw [hcap, hW] at kc
 rw [hW] at HT0 HB0
 rw [hn] at kc HT0 hs
 have HN := Lib.hid hn
 have h0 := mixT_zero (bl s)
 rw [← h0] at HT0
 have HALL := Lib.hid (mixT_all (bl s))
 have HBS := Lib.hid (show (bl s).length = n by rw [bl_size]; exact hn)
 clear hcap hW h0
 go_enter Try.func58, Try.ntmps58
 go_wp2_with fail
 clear kc
 go_loopw [4] (fun i wr => ∃ k : Nat, k ≤ n ∧ i = .int .i64 k ∧ Hid (TbAt wr w.heap.size n (mixT (bl s) k)) ∧ Hid (Below w.heap.size w wr)) (fun i _ => n - (intOf i).toNat)
 case atStart => exact ⟨0, Nat.zero_le _, rfl, HT0, HB0⟩
 case round =>
  clear HT0 HB0
  obtain ⟨k, hk, rfl, HT, HB⟩ := hrel
  have hHl := HT.out.2.1
  by_cases hlt : k < n
  · have e2 : (k : Int) < (n : Int) := by omega
    have k0 : (0 : Int) ≤ (k : Int) := by omega
    have hks : k < s.size := by omega
    obtain ⟨x, hx⟩ : ∃ x, (s[k]'hks) = x := ⟨_, rfl⟩
    have HXX := Lib.hid (show (mixT (bl s) k).getD k 0 = x by rw [mixT_getD, ← hx]; exact bl_getD hks)
    have HM := Lib.hid (mixT_set (l := bl s) (k := k) (x := x) (by rw [HBS.out]; exact hlt) (by rw [← hx]; exact bl_getD hks))
    obtain ⟨c0, f0⟩ := HT.out.2.2 k hlt
    rw [HXX.out] at c0
    have hcase : x = 43 ∨ x = 45 ∨ x = 60 ∨ x = 62 ∨ (x ≠ 43 ∧ x ≠ 45 ∧ x ≠ 60 ∧ x ≠ 62) := by
     by_cases h1 : x = 43
     · exact .inl h1
     by_cases h2 : x = 45
     · exact .inr (.inl h2)
     by_cases h3 : x = 60
     · exact .inr (.inr (.inl h3))
     by_cases h4 : x = 62
     · exact .inr (.inr (.inr (.inl h4)))
     exact .inr (.inr (.inr (.inr ⟨h1, h2, h3, h4⟩)))
    rcases hcase with rfl | rfl | rfl | rfl | ⟨h43, h45, h60, h62⟩
    · have w43 : (((43 : UInt8).toNat : Int) == 43) = true := rfl
      have w45 : (((43 : UInt8).toNat : Int) == 45) = false := rfl
      have w60 : (((43 : UInt8).toNat : Int) == 60) = false := rfl
      have w62 : (((43 : UInt8).toNat : Int) == 62) = false := rfl
      have hm2 := HM.out
      rw [show turnC 43 = 45 from rfl] at hm2
      have HM2 := Lib.hid hm2
      clear hm2
      have HT2 := Lib.hid (show TbAt (wr.setCell ⟨w.heap.size, k, none⟩ (.int .u8 ((45 : UInt8).toNat : Int))) w.heap.size n (mixT (bl s) (k + 1)) by rw [← HM2.out]; exact HT.out.set hlt 45)
      go_wp2
      go_roundw
      case rel => exact ⟨k + 1, by omega, by go_num, HT2, Lib.hid (HB.out.setCell (p := ⟨w.heap.size, k, none⟩) (Nat.le_refl _) _)⟩
      case measure => simp [intOf]; omega
    · have w43 : (((45 : UInt8).toNat : Int) == 43) = false := rfl
      have w45 : (((45 : UInt8).toNat : Int) == 45) = true := rfl
      have w60 : (((45 : UInt8).toNat : Int) == 60) = false := rfl
      have w62 : (((45 : UInt8).toNat : Int) == 62) = false := rfl
      have hm2 := HM.out
      rw [show turnC 45 = 43 from rfl] at hm2
      have HM2 := Lib.hid hm2
      clear hm2
      have HT2 := Lib.hid (show TbAt (wr.setCell ⟨w.heap.size, k, none⟩ (.int .u8 ((43 : UInt8).toNat : Int))) w.heap.size n (mixT (bl s) (k + 1)) by rw [← HM2.out]; exact HT.out.set hlt 43)
      go_wp2
      go_roundw
      case rel => exact ⟨k + 1, by omega, by go_num, HT2, Lib.hid (HB.out.setCell (p := ⟨w.heap.size, k, none⟩) (Nat.le_refl _) _)⟩
      case measure => simp [intOf]; omega
    · have w43 : (((60 : UInt8).toNat : Int) == 43) = false := rfl
      have w45 : (((60 : UInt8).toNat : Int) == 45) = false := rfl
      have w60 : (((60 : UInt8).toNat : Int) == 60) = true := rfl
      have w62 : (((60 : UInt8).toNat : Int) == 62) = false := rfl
      have hm2 := HM.out
      rw [show turnC 60 = 62 from rfl] at hm2
      have HM2 := Lib.hid hm2
      clear hm2
      have HT2 := Lib.hid (show TbAt (wr.setCell ⟨w.heap.size, k, none⟩ (.int .u8 ((62 : UInt8).toNat : Int))) w.heap.size n (mixT (bl s) (k + 1)) by rw [← HM2.out]; exact HT.out.set hlt 62)
      go_wp2
      go_roundw
      case rel => exact ⟨k + 1, by omega, by go_num, HT2, Lib.hid (HB.out.setCell (p := ⟨w.heap.size, k, none⟩) (Nat.le_refl _) _)⟩
      case measure => simp [intOf]; omega
    · have w43 : (((62 : UInt8).toNat : Int) == 43) = false := rfl
      have w45 : (((62 : UInt8).toNat : Int) == 45) = false := rfl
      have w60 : (((62 : UInt8).toNat : Int) == 60) = false := rfl
      have w62 : (((62 : UInt8).toNat : Int) == 62) = true := rfl
      have hm2 := HM.out
      rw [show turnC 62 = 60 from rfl] at hm2
      have HM2 := Lib.hid hm2
      clear hm2
      have HT2 := Lib.hid (show TbAt (wr.setCell ⟨w.heap.size, k, none⟩ (.int .u8 ((60 : UInt8).toNat : Int))) w.heap.size n (mixT (bl s) (k + 1)) by rw [← HM2.out]; exact HT.out.set hlt 60)
      go_wp2
      go_roundw
      case rel => exact ⟨k + 1, by omega, by go_num, HT2, Lib.hid (HB.out.setCell (p := ⟨w.heap.size, k, none⟩) (Nat.le_refl _) _)⟩
      case measure => simp [intOf]; omega
    · have n43 : (x.toNat : Int) ≠ 43 := fun h => h43 (UInt8.toNat.inj (show x.toNat = 43 by omega))
      have w43 : ((x.toNat : Int) == 43) = false := by simpa using n43
      have n45 : (x.toNat : Int) ≠ 45 := fun h => h45 (UInt8.toNat.inj (show x.toNat = 45 by omega))
      have w45 : ((x.toNat : Int) == 45) = false := by simpa using n45
      have n60 : (x.toNat : Int) ≠ 60 := fun h => h60 (UInt8.toNat.inj (show x.toNat = 60 by omega))
      have w60 : ((x.toNat : Int) == 60) = false := by simpa using n60
      have n62 : (x.toNat : Int) ≠ 62 := fun h => h62 (UInt8.toNat.inj (show x.toNat = 62 by omega))
      have w62 : ((x.toNat : Int) == 62) = false := by simpa using n62
      have hm2 := HM.out
      rw [show turnC x = x by unfold turnC; rw [if_neg h43, if_neg h45, if_neg h60, if_neg h62]] at hm2
      have HM2 := Lib.hid hm2
      clear hm2 h43 h45 h60 h62 n43 n45 n60 n62
      have HT2 := Lib.hid (show TbAt wr w.heap.size n (mixT (bl s) (k + 1)) by rw [← HM2.out, set_getD HXX.out]; exact HT.out)
      go_wp2
      go_roundw
      case rel => exact ⟨k + 1, by omega, by go_num, HT2, HB⟩
      case measure => simp [intOf]; omega
  · obtain rfl : k = n := by omega
    have HMM := Lib.hid (show mixT (bl s) k = turnW (bl s) by rw [← HBS.out]; exact HALL.out)
    have kb := HT.out.back (dst := 9) Try.underlying22 Try.underlying5 Try.underlying9 cap
    rw [HMM.out] at kb
    go_wp2
    go_ret
    exact ⟨rfl, HB.out⟩

end Go.Proofs.Ytihljhikhplegaa
namespace Go.Proofs.Ytihljhikhplegaa
open Go.RowKit
set_option linter.unusedVariables false
set_option linter.unusedSimpArgs false
def RetIn (s : ByteArray) (w : World) (e : Ending) (w' : World) : Prop := e = .returned (.tuple #[.string ((invO s).getD ⟨#[]⟩), .bool (invO s).isSome]) ∧ Below w.heap.size w w'
theorem inv_none {s : ByteArray} {x : RW} (hx : x ∈ rulesL s) (h : x.what = 99) : invO s = none := by
 unfold invO
 rw [if_neg]
 rintro ⟨_, hc⟩
 unfold cFree at hc
 simp only [List.all_eq_true, decide_eq_true_eq] at hc
 exact hc x hx h
theorem inv_some {s : ByteArray} (hs : scrB s = true) (h : ∀ x ∈ rulesL s, x.what ≠ 99) : invO s = some (str (jnL (invW s))) := by
 unfold invO
 rw [if_pos ⟨hs, by unfold cFree; simp only [List.all_eq_true, decide_eq_true_eq]; exact h⟩]
theorem inv_get {P R : List (List UInt8)} {m : Nat} (hR : R = P.reverse.map turnW) (hm : P.length = m) {j : Nat} (hj : j < m) : R[j]? = (P[m - 1 - j]?).map turnW := by
 rw [hR, List.getElem?_map, List.getElem?_reverse (by omega), hm]
theorem jnL_spB : ∀ (ws : List (List UInt8)) (w : List UInt8), jnL (ws ++ [w]) = spB ws ++ w := by
 intro ws
 induction ws with
 | nil => intro w; rfl
 | cons x ws ih =>
   intro w
   have : jnL (x :: (ws ++ [w])) = x ++ 32 :: jnL (ws ++ [w]) := jnL_cons x (by simp)
   rw [List.cons_append, this, ih]
   simp [spB]
theorem jnL_last {R : List (List UInt8)} {j : Nat} {w : List UInt8} (h : R[j]? = some w) (hj : R.length = j + 1) : jnL R = spB (R.take j) ++ w := by
 have e : R.take j ++ [w] = R := by
  have h1 : R.take (j + 1) = R := List.take_of_length_le (by omega)
  rw [List.take_add_one, h] at h1
  exact h1
 rw [← jnL_spB, e]
theorem plain_c {l : List UInt8} {d : Nat} (h : plainO l = some (99, d)) : l = [99] := by
 rcases plain_inv h with ⟨_, _, h3⟩ | ⟨h1, _⟩
 · exact h3
 · rcases h1 with h1 | h1 <;> exact absurd h1 (by decide)
theorem plain_c' {l : List UInt8} {c : UInt8} {d : Nat} (h : plainO l = some (c, d)) (hl : l = [99]) : c = 99 := by
 rcases plain_inv h with ⟨_, _, h3⟩ | ⟨_, y, h3, _⟩
 · rw [hl] at h3; injection h3 with h3; exact h3.symm
 · rw [hl] at h3; injection h3 with _ h3; cases h3
set_option maxRecDepth 100000 in
set_option maxHeartbeats 8000000 in
theorem specInverse_any (s : ByteArray) (w : World) (hs : s.size ≤ 16777216) : Calls Try.prog 25 #[.string s] w (RetIn s w) := by
 have HR := Lib.hid (fun w => l15Good_any s w hs)
 unfold RetV at HR
 unfold RetIn
 cases hsc : scrB s
 · rw [hsc] at HR
   rw [show invO s = none by unfold invO; rw [if_neg (by rw [hsc]; simp)]]
   clear hsc
   go_enter Try.func25, Try.ntmps25
   go_wp2_with fail
   refine (HR.out _).mono ?_
   rintro e w1 ⟨rfl, hb1⟩
   go_wp2
   go_ret2
   exact ⟨rfl, hb1⟩
 · rw [hsc] at HR
   have hs80 : s.size ≤ 80 := by
    have h := hsc
    unfold scrB at h
    simp only [Bool.and_eq_true, decide_eq_true_eq] at h
    exact h.1
   have hrw := fun k l => @rule_word s hsc k l
   have HW := Lib.hid (fun w => l15Words_any s w hs80)
   have hpl := fun (l : List UInt8) (hl : l ∈ wordsL s) => (show l.length ≤ 80 from word_le hs80 hl)
   have HNONE := Lib.hid (fun x (hx : x ∈ rulesL s) (h9 : x.what = 99) => inv_none (s := s) hx h9)
   have HALL := Lib.hid (fun (h : ∀ x ∈ rulesL s, x.what ≠ 99) => inv_some hsc h)
   have hlen := rulesL_len s
   have h81 := rules_81' hsc
   have hR : invW s = (wordsL s).reverse.map turnW := rfl
   obtain ⟨O, hO⟩ : ∃ O, invO s = O := ⟨_, rfl⟩
   rw [hO] at HNONE HALL ⊢
   obtain ⟨R, hRR⟩ : ∃ R, invW s = R := ⟨_, rfl⟩
   rw [hRR] at HALL hR
   obtain ⟨X, hX⟩ : ∃ X, rulesL s = X := ⟨_, rfl⟩
   rw [hX] at hrw hlen HNONE HALL h81
   obtain ⟨P, hP⟩ : ∃ P, wordsL s = P := ⟨_, rfl⟩
   rw [hP] at HW hrw hpl hlen hR
   obtain ⟨m, hm⟩ : ∃ m, P.length = m := ⟨_, rfl⟩
   rw [hm] at hlen HW
   have hm81 : m ≤ 81 := by omega
   have hRm : R.length = m := by rw [hR]; simp [hm]
   have hRg := fun j (hj : j < m) => inv_get hR hm hj
   have HM := Lib.hid hm
   have HRW := Lib.hid hrw
   have HPL := Lib.hid hpl
   have HXL := Lib.hid hlen
   have HRL := Lib.hid hRm
   have HRG := Lib.hid hRg
   clear hsc hO hRR hX hP hm hrw hpl hlen hR hRm hRg h81
   go_enter Try.func25, Try.ntmps25
   go_wp2_with fail
   refine (HR.out _).mono ?_
   rintro e w1 ⟨rfl, hb1⟩
   go_wp2_with fail
   refine (HW.out _).mono ?_
   rintro e w2 ⟨A1, c1, rfl, ho1, hb2⟩
   have HO := Lib.hid ho1
   have HB := Lib.hid (ext_trans hb1 hb2)
   clear ho1 hb1 hb2
   go_wp2_with fail
   go_loopw [5, 6] (fun v i wr => ∃ (j : Nat) (z : Int) (S : ByteArray), j ≤ m ∧ i = .int .i64 z ∧ z = (m : Int) - 1 - j ∧ v = .string S ∧ S.size ≤ 100 * j ∧ Hid (bl S = if j < m then spB (R.take j) else jnL R) ∧ Hid (∀ i, m - j ≤ i → i < m → ∀ x, X[i]? = some x → x.what ≠ 99) ∧ Hid (Below w2.heap.size w2 wr)) (fun _ i _ => (intOf i + 1).toNat)
   case atStart => exact ⟨0, _, ⟨#[]⟩, Nat.zero_le _, rfl, by omega, rfl, Nat.le_refl _, Lib.hid (by split; rfl; rw [List.eq_nil_of_length_eq_zero (show R.length = 0 by rw [HRL.out]; omega)]; rfl), Lib.hid (fun i h1 h2 => by omega), Lib.hid (ext_refl _)⟩
   case round =>
    obtain ⟨j, z, S, hj, rfl, hz, rfl, hSz, HS, HNO, HX⟩ := hrel
    by_cases hlt : j < m
    · obtain ⟨k, hk⟩ : ∃ k : Nat, k = m - 1 - j := ⟨_, rfl⟩
      have hzk : z = (k : Int) := by omega
      have hkm : k < m := by omega
      subst hzk
      obtain ⟨l, hl⟩ := list_split (l := P) (k := k) (by rw [HM.out]; exact hkm)
      obtain ⟨x, hxo, hx⟩ := HRW.out k l hl
      obtain ⟨b, o, rfl, hb, c0⟩ := strs_at (Reads.of_own (own_ext HO.out HX.out)) hl
      have hll : l.length ≤ 80 := HPL.out l (List.mem_of_getElem? hl)
      have HT := Lib.hid (fun w => l15Times_any (str l) x w (by rw [str_size]; exact hll) (by rw [bl_str]; exact hxo))
      have HTU := Lib.hid (fun w => l15Turned_any (str l) w (by rw [str_size]; exact hll))
      simp only [bl_str] at HTU
      have htl : (str (turnW l)).size ≤ 80 := by rw [str_size]; simpa [turnW] using hll
      have e2 : (k : Int) < (m : Int) := by omega
      have k0 : (0 : Int) ≤ (k : Int) := by omega
      have HRJ := Lib.hid (show R[j]? = some (turnW l) by rw [HRG.out j hlt, ← hk, hl]; rfl)
      have hs1 := HS.out
      rw [if_pos hlt] at hs1
      have HS1 := Lib.hid hs1
      have HK := Lib.hid hk
      have HXM := Lib.hid (List.mem_of_getElem? hx)
      have HXK := Lib.hid hx
      clear hl hxo hs1 hk hz hx
      go_wp2_with fail
      refine (HT.out _).mono ?_
      rintro e w3 ⟨p, rfl, hpp, _, hb3⟩
      have HX3 := Lib.hid (ext_trans HX.out hb3)
      have c03 := ext_cell hb3 c0
      have hb9 := Nat.lt_of_lt_of_le (show b < wr.heap.size from Nat.lt_of_lt_of_le hb (by first | exact HX.out.size | exact Nat.le_refl _)) hb3.size
      by_cases h99 : x.what = 99
      · have hbp : bl p = [99] := by rw [h99] at hpp; exact plain_c hpp
        have e60 : (p.toList == [99]) = true := by rw [lit_iff, hbp]; rfl
        have HN := Lib.hid (HNONE.out x HXM.out h99)
        clear hbp hpp hb3 h99
        go_wp2
        go_ret2
        rw [HN.out]
        exact ⟨rfl, ext_trans HB.out HX3.out⟩
      · have hbp : bl p ≠ [99] := fun e => h99 (plain_c' hpp e)
        have e60 : (p.toList == [99]) = false := by rw [lit_iff]; exact decide_eq_false hbp
        have HNO2 := Lib.hid (show ∀ i, m - (j + 1) ≤ i → i < m → ∀ x, X[i]? = some x → x.what ≠ 99 from fun i h1 h2 y hy => by
         rcases (show m - j ≤ i ∨ i = k by have := HK.out; omega) with h | h
         · exact HNO.out i h h2 y hy
         · subst h; rw [HXK.out] at hy; injection hy with hy; subst hy; exact h99)
        clear hbp hpp hb3 h99
        go_wp2_with fail
        refine (HTU.out _).mono ?_
        rintro e w4 ⟨rfl, hb4⟩
        have HX4 := Lib.hid (ext_trans HX3.out hb4)
        clear hb4
        obtain ⟨t, ht⟩ : ∃ t, str (turnW l) = t := ⟨_, rfl⟩
        have HTT := Lib.hid (show bl t = turnW l by rw [← ht, bl_str])
        rw [ht] at htl ⊢
        clear ht
        by_cases hk0 : 0 < k
        · have e3 : (0 : Int) < (k : Int) := by omega
          go_wp2
          go_roundw
          case rel => exact ⟨j + 1, (k : Int) - 1, _, by omega, by go_num, by have := HK.out; omega, rfl, by simp only [ByteArray.size_append]; show S.size + t.size + 1 ≤ _; omega, Lib.hid (by rw [if_pos (by have := HK.out; omega), List.take_add_one, HRJ.out]; simp only [bl_append]; rw [HS1.out, HTT.out]; simp [spB]; rfl), HNO2, HX4⟩
          case measure => simp [intOf]
        · obtain rfl : k = 0 := by omega
          go_wp2
          go_roundw
          case rel => exact ⟨j + 1, -1, _, by omega, by go_num, by have := HK.out; omega, rfl, by simp only [ByteArray.size_append]; omega, Lib.hid (by rw [if_neg (by have := HK.out; omega), bl_append, HS1.out, HTT.out]; exact (jnL_last HRJ.out (by rw [HRL.out]; have := HK.out; omega)).symm), HNO2, HX4⟩
          case measure => simp [intOf]
    · obtain rfl : j = m := by omega
      have hz' : z = -1 := by omega
      subst hz'
      have hO2 := HALL.out (fun x hx => by
       obtain ⟨i, hi⟩ := List.mem_iff_getElem?.1 hx
       have := (List.getElem?_eq_some_iff.1 hi).1
       exact HNO.out i (by omega) (by have := HXL.out; omega) x hi)
      have hs1 := HS.out
      rw [if_neg (by omega)] at hs1
      have HO2 := Lib.hid (show O = some S by rw [hO2, ← hs1, str_bl])
      clear hO2 hs1 hz
      go_wp2
      go_ret2
      rw [HO2.out]
      exact ⟨rfl, ext_trans HB.out HX.out⟩

end Go.Proofs.Ytihljhikhplegaa
