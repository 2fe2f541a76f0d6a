/- Drawings for the law of images; vHas, vWithin. -/
import Derived.Test.YtlkfffohjeoooaaVFdN
import Derived.Test.YtlkfffohjeoooaaVFdO
import Derived.Test.YtlkfffohjeoooaaVM1
namespace Go.Proofs.Ytlkfffohjeoooaa
open Go.RowKit
set_option linter.unusedVariables false
set_option linter.unusedSimpArgs false
def DrawQ (w : World) (e : Ending) (w' : World) : Prop := ∃ (q : Md) (A : Option Addr) (cr : Nat) (K : Option Addr) (kc : Nat) (I : Option Addr) (ic : Nat), e = .returned (mdV q.u q.lo A q.l.length cr K q.cl.length kc I q.im.length ic q.be q.gu) ∧ q.l.length ≤ 9 ∧ q.cl.length ≤ 9 ∧ q.im.length ≤ 9 ∧ w'.ownsRow w.heap.size 155 2 (.slice A q.l.length cr) q.l.length (rowsV2 q.l) ∧ w'.ownsRow w.heap.size 3 1 (.slice K q.cl.length kc) q.cl.length (intsV q.cl) ∧ w'.ownsRow w.heap.size 3 1 (.slice I q.im.length ic) q.im.length (intsV q.im) ∧ Below w.heap.size w w'
set_option maxRecDepth 100000 in
set_option maxHeartbeats 4000000 in
theorem drawIsMind_any (Ac : Option Addr) (nc cc : Nat) (w : World) (h : Code w w.heap.size Ac nc) (hn : nc ≤ 65536) :
 Calls Try.prog 141 #[.slice Ac nc cc] w (DrawQ w) := by
 have HC := Lib.hid (h.cur1 (by omega) cc (.cells #[.int .i64 0, .int .i64 0, .slice none 0 0, .slice none 0 0, .slice none 0 0, .int .i64 0, .int .i64 0] 47))
 have BR0 := Lib.hid ((Blk.born w #[.int .i64 0, .int .i64 0, .slice none 0 0, .slice none 0 0, .slice none 0 0, .int .i64 0, .int .i64 0] 47 (H := w.heap.size) rfl).al (.cells #[.slice Ac nc cc, .int .i64 0, .int .u64 0] 125))
 have hbx := Lib.hid (ext_alloc (ext_alloc (ext_refl w) (.cells #[.int .i64 0, .int .i64 0, .slice none 0 0, .slice none 0 0, .slice none 0 0, .int .i64 0, .int .i64 0] 47)) (.cells #[.slice Ac nc cc, .int .i64 0, .int .u64 0] 125))
 clear h
 go_enter Try.func141, Try.ntmps141
 go_wp2_with fail
 refine (drawMind_any _ 0 _ HC.out (by omega)).mono ?_
 rintro e w1 ⟨q, A, cr, K, kc, I, ic, a1, rfl, hl9, hk9, hi9, ha1, ho1, ho2, ho3, hc1, hg1⟩
 have BR1 := Lib.hid (BR0.out.gr hg1 (by omega))
 have HR1 := Lib.hid (own_base (base' := w.heap.size) ho1 (by simp <;> omega))
 have HC1 := Lib.hid (own_base (base' := w.heap.size) ho2 (by simp <;> omega))
 have HI1 := Lib.hid (own_base (base' := w.heap.size) ho3 (by simp <;> omega))
 have HB1 := Lib.hid (Gr.below hbx.out hg1 (Nat.le_succ _))
 clear ho1 ho2 ho3 hc1 hg1
 obtain ⟨r0, r1, r2, r3, r4, r5, r6⟩ := BR1.out.q7
 obtain ⟨y0, y1, y2, y3, y4, y5, y6⟩ := BR1.out.z7
 have lr := BR1.out.lt
 go_wp2
 refine bodyPost_ret (v := mdV q.u q.lo A q.l.length cr K q.cl.length kc I q.im.length ic q.be q.gu) (by simp [results, Try.results141, go_sem, *]) rfl ?_
 exact ⟨q, A, cr, K, kc, I, ic, rfl, hl9, hk9, hi9, m7_own HR1.out (own_nbT HR1.out BR1.out (by decide)), m7_own HC1.out (own_nbT HC1.out BR1.out (by decide)), m7_own HI1.out (own_nbT HI1.out BR1.out (by decide)), m7_below HB1.out (Nat.le_refl _)⟩

set_option maxRecDepth 100000 in
set_option maxHeartbeats 4000000 in
theorem drawBeatsLeft_any (Ac : Option Addr) (nc cc : Nat) (w : World) (h : Code w w.heap.size Ac nc) (hn : nc ≤ 65536) :
 Calls Try.prog 73 #[.slice Ac nc cc] w (DrawQ w) := by
 have hbx := Lib.hid (ext_alloc (ext_refl w) (.cells #[.int .i64 0, .int .i64 0, .slice none 0 0, .slice none 0 0, .slice none 0 0, .int .i64 0, .int .i64 0] 47))
 have BR0 := Lib.hid (Blk.born w #[.int .i64 0, .int .i64 0, .slice none 0 0, .slice none 0 0, .slice none 0 0, .int .i64 0, .int .i64 0] 47 (H := w.heap.size) rfl)
 have HC := Lib.hid ((h.below hbx.out).more hbx.out.size)
 clear h
 go_enter Try.func73, Try.ntmps73
 go_wp2_with fail
 refine (drawIsMind_any Ac nc cc _ HC.out hn).mono ?_
 rintro e w1 ⟨q, A, cr, K, kc, I, ic, rfl, hl9, hk9, hi9, ho1, ho2, ho3, hb1⟩
 have BR1 := Lib.hid (BR0.out.ext hb1)
 have HR1 := Lib.hid (own_base (base' := w.heap.size) ho1 (by simp <;> omega))
 have HC1 := Lib.hid (own_base (base' := w.heap.size) ho2 (by simp <;> omega))
 have HI1 := Lib.hid (own_base (base' := w.heap.size) ho3 (by simp <;> omega))
 have HB1 := Lib.hid (ext_trans hbx.out hb1)
 clear ho1 ho2 ho3 hb1
 obtain ⟨r0, r1, r2, r3, r4, r5, r6⟩ := BR1.out.q7
 obtain ⟨y0, y1, y2, y3, y4, y5, y6⟩ := BR1.out.z7
 have lr := BR1.out.lt
 go_wp2
 refine bodyPost_ret (v := mdV q.u q.lo A q.l.length cr K q.cl.length kc I q.im.length ic q.be q.gu) (by simp [results, Try.results73, go_sem, *]) rfl ?_
 exact ⟨q, A, cr, K, kc, I, ic, rfl, hl9, hk9, hi9, m7_own HR1.out (own_nbT HR1.out BR1.out (by decide)), m7_own HC1.out (own_nbT HC1.out BR1.out (by decide)), m7_own HI1.out (own_nbT HI1.out BR1.out (by decide)), m7_below HB1.out (Nat.le_refl _)⟩

set_option maxRecDepth 100000 in
set_option maxHeartbeats 4000000 in
theorem drawLostRods_any (Ac : Option Addr) (nc cc : Nat) (w : World) (h : Code w w.heap.size Ac nc) (hn : nc ≤ 65536) :
 Calls Try.prog 78 #[.slice Ac nc cc] w (DrawQ w) := by
 have hbx := Lib.hid (ext_alloc (ext_refl w) (.cells #[.int .i64 0, .int .i64 0, .slice none 0 0, .slice none 0 0, .slice none 0 0, .int .i64 0, .int .i64 0] 47))
 have BR0 := Lib.hid (Blk.born w #[.int .i64 0, .int .i64 0, .slice none 0 0, .slice none 0 0, .slice none 0 0, .int .i64 0, .int .i64 0] 47 (H := w.heap.size) rfl)
 have HC := Lib.hid ((h.below hbx.out).more hbx.out.size)
 clear h
 go_enter Try.func78, Try.ntmps78
 go_wp2_with fail
 refine (drawIsMind_any Ac nc cc _ HC.out hn).mono ?_
 rintro e w1 ⟨q, A, cr, K, kc, I, ic, rfl, hl9, hk9, hi9, ho1, ho2, ho3, hb1⟩
 have BR1 := Lib.hid (BR0.out.ext hb1)
 have HR1 := Lib.hid (own_base (base' := w.heap.size) ho1 (by simp <;> omega))
 have HC1 := Lib.hid (own_base (base' := w.heap.size) ho2 (by simp <;> omega))
 have HI1 := Lib.hid (own_base (base' := w.heap.size) ho3 (by simp <;> omega))
 have HB1 := Lib.hid (ext_trans hbx.out hb1)
 clear ho1 ho2 ho3 hb1
 obtain ⟨r0, r1, r2, r3, r4, r5, r6⟩ := BR1.out.q7
 obtain ⟨y0, y1, y2, y3, y4, y5, y6⟩ := BR1.out.z7
 have lr := BR1.out.lt
 go_wp2
 refine bodyPost_ret (v := mdV q.u q.lo A q.l.length cr K q.cl.length kc I q.im.length ic q.be q.gu) (by simp [results, Try.results78, go_sem, *]) rfl ?_
 exact ⟨q, A, cr, K, kc, I, ic, rfl, hl9, hk9, hi9, m7_own HR1.out (own_nbT HR1.out BR1.out (by decide)), m7_own HC1.out (own_nbT HC1.out BR1.out (by decide)), m7_own HI1.out (own_nbT HI1.out BR1.out (by decide)), m7_below HB1.out (Nat.le_refl _)⟩

set_option maxRecDepth 100000 in
set_option maxHeartbeats 4000000 in
theorem drawMindText_any (Ac : Option Addr) (nc cc : Nat) (w : World) (h : Code w w.heap.size Ac nc) (hn : nc ≤ 65536) :
 Calls Try.prog 84 #[.slice Ac nc cc] w (DrawQ w) := by
 have hbx := Lib.hid (ext_alloc (ext_refl w) (.cells #[.int .i64 0, .int .i64 0, .slice none 0 0, .slice none 0 0, .slice none 0 0, .int .i64 0, .int .i64 0] 47))
 have BR0 := Lib.hid (Blk.born w #[.int .i64 0, .int .i64 0, .slice none 0 0, .slice none 0 0, .slice none 0 0, .int .i64 0, .int .i64 0] 47 (H := w.heap.size) rfl)
 have HC := Lib.hid ((h.below hbx.out).more hbx.out.size)
 clear h
 go_enter Try.func84, Try.ntmps84
 go_wp2_with fail
 refine (drawIsMind_any Ac nc cc _ HC.out hn).mono ?_
 rintro e w1 ⟨q, A, cr, K, kc, I, ic, rfl, hl9, hk9, hi9, ho1, ho2, ho3, hb1⟩
 have BR1 := Lib.hid (BR0.out.ext hb1)
 have HR1 := Lib.hid (own_base (base' := w.heap.size) ho1 (by simp <;> omega))
 have HC1 := Lib.hid (own_base (base' := w.heap.size) ho2 (by simp <;> omega))
 have HI1 := Lib.hid (own_base (base' := w.heap.size) ho3 (by simp <;> omega))
 have HB1 := Lib.hid (ext_trans hbx.out hb1)
 clear ho1 ho2 ho3 hb1
 obtain ⟨r0, r1, r2, r3, r4, r5, r6⟩ := BR1.out.q7
 obtain ⟨y0, y1, y2, y3, y4, y5, y6⟩ := BR1.out.z7
 have lr := BR1.out.lt
 go_wp2
 refine bodyPost_ret (v := mdV q.u q.lo A q.l.length cr K q.cl.length kc I q.im.length ic q.be q.gu) (by simp [results, Try.results84, go_sem, *]) rfl ?_
 exact ⟨q, A, cr, K, kc, I, ic, rfl, hl9, hk9, hi9, m7_own HR1.out (own_nbT HR1.out BR1.out (by decide)), m7_own HC1.out (own_nbT HC1.out BR1.out (by decide)), m7_own HI1.out (own_nbT HI1.out BR1.out (by decide)), m7_below HB1.out (Nat.le_refl _)⟩

set_option maxHeartbeats 1000000 in
theorem vHas_yes (A : Option Addr) (n c : Nat) (l : List Int) (x : Int) (w : World) (hn : n ≤ 1048576) (h : Reads w w.heap.size 1 A n (intsV l)) (hx : x ∈ l) :
 Calls Try.prog 82 #[.slice A n c, .int .i64 x] w fun e w' => e = .returned (.bool true) ∧ Below w.heap.size w w' := by
 have hl := ints_len h
 have H := Lib.hid h
 have HL := Lib.hid hl
 have HX := Lib.hid hx
 clear h hl hx
 go_enter Try.func82, Try.ntmps82
 go_wp2
 go_loopw [5] (fun i wr => ∃ k : Nat, k ≤ n ∧ i = .int .i64 k ∧ Hid (∀ j y, j < k → l[j]? = some y → y ≠ x) ∧ wr = w) (fun i _ => n - (intOf i).toNat)
 case atStart => exact ⟨0, Nat.zero_le _, rfl, Lib.hid (fun j y hj => by omega), rfl⟩
 case round =>
  obtain ⟨k, hk, rfl, HNO, rfl⟩ := hrel
  by_cases hlt : k < n
  · obtain ⟨r, hr⟩ := list_split (l := l) (k := k) (by rw [HL.out]; exact hlt)
    obtain ⟨b, o, rfl, hb, c0⟩ := ints_at H.out hr
    have hk1 : (k : Int) < (n : Int) := by omega
    have hk0 : (0 : Int) ≤ (k : Int) := by omega
    by_cases he : r = x
    · have hne : (r == x) = true := by simpa using he
      clear hr he
      go_wp2
      go_ret
      exact ⟨rfl, ext_refl _⟩
    · have hne : (r == x) = false := by simpa using he
      have HN2 := Lib.hid (show ∀ j y, j < k + 1 → l[j]? = some y → y ≠ x from fun j y hj hy => by
       rcases (show j < k ∨ j = k by omega) with h | h
       · exact HNO.out j y h hy
       · subst h; rw [hr] at hy; injection hy with hy; rw [← hy]; exact he)
      clear hr he
      go_wp2
      go_roundw
      case rel => exact ⟨k + 1, by omega, by go_num, HN2, by first | rfl | trivial⟩
      case measure => simp [intOf]; omega
  · exfalso
    obtain ⟨j, hj⟩ := List.mem_iff_getElem?.1 HX.out
    have hjl := (List.getElem?_eq_some_iff.1 hj).1
    exact HNO.out j x (by have := HL.out; omega) hj rfl
set_option maxHeartbeats 1000000 in
theorem vWithin_yes (A B : Option Addr) (n m c d : Nat) (l l2 : List Int) (w : World) (hn : n ≤ 1048576) (hm : m ≤ 1048576) (h : Reads w w.heap.size 1 A n (intsV l)) (h2 : Reads w w.heap.size 1 B m (intsV l2)) (hx : ∀ x ∈ l, x ∈ l2) :
 Calls Try.prog 77 #[.slice A n c, .slice B m d] w fun e w' => e = .returned (.bool true) ∧ Below w.heap.size w w' := by
 have hl := ints_len h
 have H := Lib.hid h
 have H2 := Lib.hid h2
 have HL := Lib.hid hl
 have HX := Lib.hid hx
 clear h h2 hl hx
 go_enter Try.func77, Try.ntmps77
 go_wp2
 go_loopw [5] (fun i wr => ∃ k : Nat, k ≤ n ∧ i = .int .i64 k ∧ Hid (Below w.heap.size w wr)) (fun i _ => n - (intOf i).toNat)
 case atStart => exact ⟨0, Nat.zero_le _, rfl, Lib.hid (ext_refl _)⟩
 case round =>
  obtain ⟨k, hk, rfl, hbl⟩ := hrel
  by_cases hlt : k < n
  · obtain ⟨r, hr⟩ := list_split (l := l) (k := k) (by rw [HL.out]; exact hlt)
    obtain ⟨b, o, rfl, hb, c0⟩ := ints_at (rdx H.out hbl.out) hr
    have hk1 : (k : Int) < (n : Int) := by omega
    have hk0 : (0 : Int) ≤ (k : Int) := by omega
    have HIN := Lib.hid (HX.out r (List.mem_of_getElem? hr))
    clear hr
    go_wp2_with fail
    refine (vHas_yes B m d l2 r _ hm (rdx H2.out hbl.out) HIN.out).mono ?_
    rintro e w2 ⟨rfl, hb2⟩
    have hbl2 := Lib.hid (ext_trans hbl.out hb2)
    clear hb2
    go_wp2
    go_roundw
    case rel => exact ⟨k + 1, by omega, by go_num, hbl2⟩
    case measure => simp [intOf]; omega
  · obtain rfl : k = n := by omega
    go_wp2
    go_ret
    exact ⟨rfl, hbl.out⟩
end Go.Proofs.Ytlkfffohjeoooaa
