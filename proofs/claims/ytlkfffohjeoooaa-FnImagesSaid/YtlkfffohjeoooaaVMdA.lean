/- Minds: which are valid. -/
import Derived.Test.YtlkfffohjeoooaaVFrN
import Derived.Test.YtlkfffohjeoooaaVM1
namespace Go.Proofs.Ytlkfffohjeoooaa
open Go.RowKit
set_option linter.unusedVariables false
set_option linter.unusedSimpArgs false
abbrev mdV (u lo : Int) (A : Option Addr) (n c : Nat) (K : Option Addr) (k kc : Nat) (I : Option Addr) (m ic : Nat) (be gu : Int) : Value := .agg #[.int .i64 u, .int .i64 lo, .slice A n c, .slice K k kc, .slice I m ic, .int .i64 be, .int .i64 gu]
abbrev mdC (u lo : Int) (A : Option Addr) (n c : Nat) (K : Option Addr) (k kc : Nat) (I : Option Addr) (m ic : Nat) (be gu : Int) : Array Value := #[.int .i64 u, .int .i64 lo, .slice A n c, .slice K k kc, .slice I m ic, .int .i64 be, .int .i64 gu]
def rowM (a b : Int) : Bool := inB a (-1) 9 && inB b 0 5 && (decide (a < 0) == decide (b = 0))
def rowsM (im cl : List Int) (k : Nat) : Bool := (List.range k).all fun i => rowM (im.getD i 0) (cl.getD i 0)
def mindB (u lo : Int) (l : List R2) (cl im : List Int) (be gu : Int) : Bool := goodB u lo l && decide (im.length = l.length) && decide (cl.length = l.length) && inB be 0 9999 && inB gu 0 9999 && rowsM im cl l.length
theorem rowsM_more {im cl : List Int} {k : Nat} {a b : Int} (h : rowsM im cl k = true) (ha : im[k]? = some a) (hb : cl[k]? = some b) (hr : rowM a b = true) : rowsM im cl (k + 1) = true := by
 unfold rowsM at h ⊢
 rw [List.range_succ, List.all_append, h]
 simp [List.getD_eq_getElem?_getD, ha, hb, hr]
theorem rowsM_bad {im cl : List Int} {k n : Nat} {a b : Int} (hk : k < n) (ha : im[k]? = some a) (hb : cl[k]? = some b) (hr : rowM a b = false) : rowsM im cl n = false := by
 unfold rowsM
 rw [List.all_eq_false]
 exact ⟨k, List.mem_range.2 hk, by simp [List.getD_eq_getElem?_getD, ha, hb, hr]⟩
/-- the box of a mind, behind it only more -/
theorem box_mind {w wr : World} {cs : Array Value} (hb : Below (w.heap.size + 1) (w.alloc (.cells cs 47)) wr) :
 Blk wr w.heap.size 47 cs ∧ Below w.heap.size w wr ∧ w.heap.size < wr.heap.size := by
 have hs := hb.size
 simp at hs
 exact ⟨(Blk.born w _ _ rfl).below hb (by omega), ((ext_refl w).alloc (Nat.le_refl _) _).trans (hb.mono (Nat.le_succ _)), by omega⟩
theorem beginGood (u lo : Int) (A : Option Addr) (n c : Nat) (l : List R2) (w : World) (hn : n ≤ 1048576) (h : Reads w w.heap.size 2 A n (rowsV2 l)) :
 Calls Try.prog 134 #[frV u lo A n c] w (fun e w' => (∃ p, e = .returned (.tuple #[.pointer p, .bool (goodB u lo l)])) ∧ Below w.heap.size w w') := by
 cases hg : goodB u lo l
 · exact (begin_no u lo A n c l w hn h hg).mono fun e w' ⟨he, hb⟩ => ⟨⟨_, he⟩, hb⟩
 · exact (begin_yes u lo A n c l w hn h hg).mono fun e w' ⟨g, he, _, hb⟩ => ⟨⟨_, he⟩, hb⟩
set_option maxRecDepth 100000 in
set_option maxHeartbeats 4000000 in
theorem isMind_any (u lo : Int) (A : Option Addr) (n c : Nat) (l : List R2) (K : Option Addr) (k kc : Nat) (cl : List Int) (I : Option Addr) (m ic : Nat) (im : List Int) (be gu : Int) (w : World) (hn : n ≤ 1048576) (hk : k ≤ 1048576) (hm : m ≤ 1048576) (h : Reads w w.heap.size 2 A n (rowsV2 l)) (hc : Reads w w.heap.size 1 K k (intsV cl)) (hi : Reads w w.heap.size 1 I m (intsV im)) :
 Calls Try.prog 65 #[mdV u lo A n c K k kc I m ic be gu] w (RetV (.bool (mindB u lo l cl im be gu)) w) := by
 have hl := rows_len2 h
 have hcl := ints_len hc
 have hil := ints_len hi
 have H := Lib.hid h
 have HC := Lib.hid hc
 have HI := Lib.hid hi
 have E := Lib.hid (show mindB u lo l cl im be gu = (goodB u lo l && decide (m = n) && decide (k = n) && inB be 0 9999 && inB gu 0 9999 && rowsM im cl n) by unfold mindB; rw [hl, hcl, hil])
 rw [E.out]
 clear h hc hi E
 cases hg0 : goodB u lo l
 · rw [show (false && decide (m = n) && decide (k = n) && inB be 0 9999 && inB gu 0 9999 && rowsM im cl n) = false by simp]
   have hgd := Lib.hid hg0
   clear hg0
   go_enter Try.func65, Try.ntmps65
   go_wp2_with fail
   refine (beginGood u lo A n c l _ hn (rdx H.out (ext_alloc (ext_refl w) _))).mono ?_
   rw [hgd.out]
   rintro e w1 ⟨⟨pp, rfl⟩, hb1⟩
   obtain ⟨BM0, hb20, hs2⟩ := box_mind (by simpa using hb1)
   have hb2 := Lib.hid hb20
   have BM := Lib.hid BM0
   obtain ⟨d0, d1, d2, d3, d4, d5, d6⟩ := BM.out.q7
   clear hb1 hb20 BM0
   go_wp2
   go_ret
   exact ⟨rfl, hb2.out⟩
 have hn8 := (frB_head (good_fr hg0)).2.2.2
 rw [hl] at hn8
 have hgd := Lib.hid hg0
 clear hg0
 by_cases hqm : m ≠ n
 · rw [show (true && decide (m = n) && decide (k = n) && inB be 0 9999 && inB gu 0 9999 && rowsM im cl n) = false by simp [hqm]]
   have hem : ((m : Int) != (n : Int)) = true := by simp; omega
   go_enter Try.func65, Try.ntmps65
   go_wp2_with fail
   refine (beginGood u lo A n c l _ hn (rdx H.out (ext_alloc (ext_refl w) _))).mono ?_
   rw [hgd.out]
   rintro e w1 ⟨⟨pp, rfl⟩, hb1⟩
   obtain ⟨BM0, hb20, hs2⟩ := box_mind (by simpa using hb1)
   have hb2 := Lib.hid hb20
   have BM := Lib.hid BM0
   obtain ⟨d0, d1, d2, d3, d4, d5, d6⟩ := BM.out.q7
   clear hb1 hb20 BM0
   go_wp2
   go_ret
   exact ⟨rfl, hb2.out⟩
 have hqm : m = n := by omega
 have hem : ((m : Int) != (n : Int)) = false := by simp; omega
 by_cases hqk : k ≠ n
 · rw [show (true && decide (m = n) && decide (k = n) && inB be 0 9999 && inB gu 0 9999 && rowsM im cl n) = false by simp [hqk]]
   have hek : ((k : Int) != (n : Int)) = true := by simp; omega
   go_enter Try.func65, Try.ntmps65
   go_wp2_with fail
   refine (beginGood u lo A n c l _ hn (rdx H.out (ext_alloc (ext_refl w) _))).mono ?_
   rw [hgd.out]
   rintro e w1 ⟨⟨pp, rfl⟩, hb1⟩
   obtain ⟨BM0, hb20, hs2⟩ := box_mind (by simpa using hb1)
   have hb2 := Lib.hid hb20
   have BM := Lib.hid BM0
   obtain ⟨d0, d1, d2, d3, d4, d5, d6⟩ := BM.out.q7
   clear hb1 hb20 BM0
   go_wp2
   go_ret
   exact ⟨rfl, hb2.out⟩
 have hqk : k = n := by omega
 have hek : ((k : Int) != (n : Int)) = false := by simp; omega
 cases hbe : inB be 0 9999
 · rw [show (true && decide (m = n) && decide (k = n) && false && inB gu 0 9999 && rowsM im cl n) = false by simp]
   go_enter Try.func65, Try.ntmps65
   go_wp2_with fail
   refine (beginGood u lo A n c l _ hn (rdx H.out (ext_alloc (ext_refl w) _))).mono ?_
   rw [hgd.out]
   rintro e w1 ⟨⟨pp, rfl⟩, hb1⟩
   obtain ⟨BM0, hb20, hs2⟩ := box_mind (by simpa using hb1)
   have hb2 := Lib.hid hb20
   have BM := Lib.hid BM0
   obtain ⟨d0, d1, d2, d3, d4, d5, d6⟩ := BM.out.q7
   clear hb1 hb20 BM0
   go_wp2_with fail
   refine (within_b _ _ _ _ _ hbe).mono ?_
   rintro e wq_hbe ⟨rfl, hbq⟩
   have hb2 := Lib.hid (ext_trans hb2.out hbq)
   have BM := Lib.hid (BM.out.ext hbq)
   have hs2 := Nat.lt_of_lt_of_le hs2 hbq.size
   clear hbq d0 d1 d2 d3 d4 d5 d6
   obtain ⟨d0, d1, d2, d3, d4, d5, d6⟩ := BM.out.q7
   go_wp2
   go_ret
   exact ⟨rfl, hb2.out⟩
 cases hgu : inB gu 0 9999
 · rw [show (true && decide (m = n) && decide (k = n) && true && false && rowsM im cl n) = false by simp]
   go_enter Try.func65, Try.ntmps65
   go_wp2_with fail
   refine (beginGood u lo A n c l _ hn (rdx H.out (ext_alloc (ext_refl w) _))).mono ?_
   rw [hgd.out]
   rintro e w1 ⟨⟨pp, rfl⟩, hb1⟩
   obtain ⟨BM0, hb20, hs2⟩ := box_mind (by simpa using hb1)
   have hb2 := Lib.hid hb20
   have BM := Lib.hid BM0
   obtain ⟨d0, d1, d2, d3, d4, d5, d6⟩ := BM.out.q7
   clear hb1 hb20 BM0
   go_wp2_with fail
   refine (within_b _ _ _ _ _ hbe).mono ?_
   rintro e wq_hbe ⟨rfl, hbq⟩
   have hb2 := Lib.hid (ext_trans hb2.out hbq)
   have BM := Lib.hid (BM.out.ext hbq)
   have hs2 := Nat.lt_of_lt_of_le hs2 hbq.size
   clear hbq d0 d1 d2 d3 d4 d5 d6
   obtain ⟨d0, d1, d2, d3, d4, d5, d6⟩ := BM.out.q7
   go_wp2_with fail
   refine (within_b _ _ _ _ _ hgu).mono ?_
   rintro e wq_hgu ⟨rfl, hbq⟩
   have hb2 := Lib.hid (ext_trans hb2.out hbq)
   have BM := Lib.hid (BM.out.ext hbq)
   have hs2 := Nat.lt_of_lt_of_le hs2 hbq.size
   clear hbq d0 d1 d2 d3 d4 d5 d6
   obtain ⟨d0, d1, d2, d3, d4, d5, d6⟩ := BM.out.q7
   go_wp2
   go_ret
   exact ⟨rfl, hb2.out⟩
 rw [show (true && decide (m = n) && decide (k = n) && true && true && rowsM im cl n) = rowsM im cl n by simp [hqm, hqk]]
 have hqm' := hqm.symm
 have hqk' := hqk.symm
 clear hqm hqk
 subst hqm' hqk'
 go_enter Try.func65, Try.ntmps65
 go_wp2_with fail
 refine (beginGood u lo A n c l _ hn (rdx H.out (ext_alloc (ext_refl w) _))).mono ?_
 rw [hgd.out]
 rintro e w1 ⟨⟨pp, rfl⟩, hb1⟩
 obtain ⟨BM0, hb20, hs2⟩ := box_mind (by simpa using hb1)
 have hb2 := Lib.hid hb20
 have BM := Lib.hid BM0
 obtain ⟨d0, d1, d2, d3, d4, d5, d6⟩ := BM.out.q7
 clear hb1 hb20 BM0
 go_wp2_with fail
 refine (within_b _ _ _ _ _ hbe).mono ?_
 rintro e wq_hbe ⟨rfl, hbq⟩
 have hb2 := Lib.hid (ext_trans hb2.out hbq)
 have BM := Lib.hid (BM.out.ext hbq)
 have hs2 := Nat.lt_of_lt_of_le hs2 hbq.size
 clear hbq d0 d1 d2 d3 d4 d5 d6
 obtain ⟨d0, d1, d2, d3, d4, d5, d6⟩ := BM.out.q7
 go_wp2_with fail
 refine (within_b _ _ _ _ _ hgu).mono ?_
 rintro e wq_hgu ⟨rfl, hbq⟩
 have hb2 := Lib.hid (ext_trans hb2.out hbq)
 have BM := Lib.hid (BM.out.ext hbq)
 have hs2 := Nat.lt_of_lt_of_le hs2 hbq.size
 clear hbq d0 d1 d2 d3 d4 d5 d6
 obtain ⟨d0, d1, d2, d3, d4, d5, d6⟩ := BM.out.q7
 go_wp2
 go_loopw [49] (fun i wr => ∃ j : Nat, j ≤ n ∧ i = .int .i64 j ∧ Hid (rowsM im cl j = true) ∧ Hid (Below w.heap.size w wr) ∧ Hid (Blk wr w.heap.size 47 (mdC u lo A n c K n kc I n ic be gu))) (fun i _ => n - (intOf i).toNat)
 case atStart => exact ⟨0, Nat.zero_le _, rfl, Lib.hid rfl, hb2, BM⟩
 case round =>
  obtain ⟨j, hj, rfl, hok, hbr, BMr⟩ := hrel
  obtain ⟨d0, d1, d2, d3, d4, d5, d6⟩ := BMr.out.q7
  have hsr := BMr.out.lt
  by_cases hlt : j < n
  · obtain ⟨a, ha⟩ := list_split (l := im) (k := j) (by omega)
    obtain ⟨b, hb⟩ := list_split (l := cl) (k := j) (by omega)
    obtain ⟨ba, oa, rfl, hba, c0⟩ := ints_at (rdx HI.out hbr.out) ha
    obtain ⟨bb, ob, rfl, hbb, c1⟩ := ints_at (rdx HC.out hbr.out) hb
    cases hx : inB a (-1) 9
    · have hbad := Lib.hid (rowsM_bad hlt ha hb (by simp [rowM, hx]))
      · clear ha hb
        have hb9 := hbr
        have BM9 := BMr
        go_wp2_with fail
        refine (within_b _ _ _ _ _ hx).mono ?_
        rintro e wz0 ⟨rfl, hbq⟩
        have c1 := ext_cell hbq c1
        have hb9 := Lib.hid (ext_trans hb9.out hbq)
        have BM9 := Lib.hid (BM9.out.ext hbq)
        have hbb := Nat.lt_of_lt_of_le hbb hbq.size
        clear d0 d1 d2 d3 d4 d5 d6 hbq
        obtain ⟨d0, d1, d2, d3, d4, d5, d6⟩ := BM9.out.q7
        go_wp2
        go_ret
        exact ⟨ret_bool (by rw [hbad.out]), hb9.out⟩
    cases hy : inB b 0 5
    · have hbad := Lib.hid (rowsM_bad hlt ha hb (by simp [rowM, hy]))
      · clear ha hb
        have hb9 := hbr
        have BM9 := BMr
        go_wp2_with fail
        refine (within_b _ _ _ _ _ hx).mono ?_
        rintro e wz0 ⟨rfl, hbq⟩
        have c1 := ext_cell hbq c1
        have hb9 := Lib.hid (ext_trans hb9.out hbq)
        have BM9 := Lib.hid (BM9.out.ext hbq)
        have hbb := Nat.lt_of_lt_of_le hbb hbq.size
        clear d0 d1 d2 d3 d4 d5 d6 hbq
        obtain ⟨d0, d1, d2, d3, d4, d5, d6⟩ := BM9.out.q7
        go_wp2_with fail
        refine (within_b _ _ _ _ _ hy).mono ?_
        rintro e wz1 ⟨rfl, hbq⟩
        have c1 := ext_cell hbq c1
        have hb9 := Lib.hid (ext_trans hb9.out hbq)
        have BM9 := Lib.hid (BM9.out.ext hbq)
        have hbb := Nat.lt_of_lt_of_le hbb hbq.size
        clear d0 d1 d2 d3 d4 d5 d6 hbq
        obtain ⟨d0, d1, d2, d3, d4, d5, d6⟩ := BM9.out.q7
        go_wp2
        go_ret
        exact ⟨ret_bool (by rw [hbad.out]), hb9.out⟩
    obtain ⟨ax, ay⟩ := inB_iff.1 hx
    obtain ⟨bx, byy⟩ := inB_iff.1 hy
    rcases (show (a < 0 ∧ b = 0) ∨ (a < 0 ∧ b ≠ 0) ∨ (¬ a < 0 ∧ b = 0) ∨ (¬ a < 0 ∧ b ≠ 0) by omega) with ⟨sa, sb⟩ | ⟨sa, sb⟩ | ⟨sa, sb⟩ | ⟨sa, sb⟩
    · subst sb
      have hrm : rowM a 0 = true := by unfold rowM; rw [hx, hy, decide_eq_true sa]; rfl
      have e3 : (!decide (a < 0)) = false := by rw [decide_eq_true sa]; rfl
      have e2 : (a == -1) = true := by simp; omega
      have hgood := Lib.hid (rowsM_more hok.out ha hb hrm)
      · clear ha hb hrm
        have hb9 := hbr
        have BM9 := BMr
        go_wp2_with fail
        refine (within_b _ _ _ _ _ hx).mono ?_
        rintro e wz0 ⟨rfl, hbq⟩
        have c1 := ext_cell hbq c1
        have hb9 := Lib.hid (ext_trans hb9.out hbq)
        have BM9 := Lib.hid (BM9.out.ext hbq)
        have hbb := Nat.lt_of_lt_of_le hbb hbq.size
        clear d0 d1 d2 d3 d4 d5 d6 hbq
        obtain ⟨d0, d1, d2, d3, d4, d5, d6⟩ := BM9.out.q7
        go_wp2_with fail
        refine (within_b _ _ _ _ _ hy).mono ?_
        rintro e wz1 ⟨rfl, hbq⟩
        have c1 := ext_cell hbq c1
        have hb9 := Lib.hid (ext_trans hb9.out hbq)
        have BM9 := Lib.hid (BM9.out.ext hbq)
        have hbb := Nat.lt_of_lt_of_le hbb hbq.size
        clear d0 d1 d2 d3 d4 d5 d6 hbq
        obtain ⟨d0, d1, d2, d3, d4, d5, d6⟩ := BM9.out.q7
        go_wp2
        go_roundw
        case rel => exact ⟨j + 1, by omega, by go_num, hgood, hb9, BM9⟩
        case measure => simp [intOf]; omega
    · have hrm : rowM a b = false := by unfold rowM; rw [hx, hy, decide_eq_true sa, decide_eq_false sb]; rfl
      have e1 : (b == 0) = false := by simp; omega
      have e3 : (!decide (a < 0)) = false := by rw [decide_eq_true sa]; rfl
      have e2 : (a == -1) = true := by simp; omega
      have hbad := Lib.hid (rowsM_bad hlt ha hb hrm)
      · clear ha hb hrm sb
        have hb9 := hbr
        have BM9 := BMr
        go_wp2_with fail
        refine (within_b _ _ _ _ _ hx).mono ?_
        rintro e wz0 ⟨rfl, hbq⟩
        have c1 := ext_cell hbq c1
        have hb9 := Lib.hid (ext_trans hb9.out hbq)
        have BM9 := Lib.hid (BM9.out.ext hbq)
        have hbb := Nat.lt_of_lt_of_le hbb hbq.size
        clear d0 d1 d2 d3 d4 d5 d6 hbq
        obtain ⟨d0, d1, d2, d3, d4, d5, d6⟩ := BM9.out.q7
        go_wp2_with fail
        refine (within_b _ _ _ _ _ hy).mono ?_
        rintro e wz1 ⟨rfl, hbq⟩
        have c1 := ext_cell hbq c1
        have hb9 := Lib.hid (ext_trans hb9.out hbq)
        have BM9 := Lib.hid (BM9.out.ext hbq)
        have hbb := Nat.lt_of_lt_of_le hbb hbq.size
        clear d0 d1 d2 d3 d4 d5 d6 hbq
        obtain ⟨d0, d1, d2, d3, d4, d5, d6⟩ := BM9.out.q7
        go_wp2
        go_ret
        exact ⟨ret_bool (by rw [hbad.out]), hb9.out⟩
    · subst sb
      have hrm : rowM a 0 = false := by unfold rowM; rw [hx, hy, decide_eq_false sa]; rfl
      have e3 : (!decide (a < 0)) = true := by rw [decide_eq_false sa]; rfl
      have e2 : (a == -1) = false := by simp; omega
      have hbad := Lib.hid (rowsM_bad hlt ha hb hrm)
      · clear ha hb hrm
        have hb9 := hbr
        have BM9 := BMr
        go_wp2_with fail
        refine (within_b _ _ _ _ _ hx).mono ?_
        rintro e wz0 ⟨rfl, hbq⟩
        have c1 := ext_cell hbq c1
        have hb9 := Lib.hid (ext_trans hb9.out hbq)
        have BM9 := Lib.hid (BM9.out.ext hbq)
        have hbb := Nat.lt_of_lt_of_le hbb hbq.size
        clear d0 d1 d2 d3 d4 d5 d6 hbq
        obtain ⟨d0, d1, d2, d3, d4, d5, d6⟩ := BM9.out.q7
        go_wp2_with fail
        refine (within_b _ _ _ _ _ hy).mono ?_
        rintro e wz1 ⟨rfl, hbq⟩
        have c1 := ext_cell hbq c1
        have hb9 := Lib.hid (ext_trans hb9.out hbq)
        have BM9 := Lib.hid (BM9.out.ext hbq)
        have hbb := Nat.lt_of_lt_of_le hbb hbq.size
        clear d0 d1 d2 d3 d4 d5 d6 hbq
        obtain ⟨d0, d1, d2, d3, d4, d5, d6⟩ := BM9.out.q7
        go_wp2
        go_ret
        exact ⟨ret_bool (by rw [hbad.out]), hb9.out⟩
    · have hrm : rowM a b = true := by unfold rowM; rw [hx, hy, decide_eq_false sa, decide_eq_false sb]; rfl
      have e1 : (b == 0) = false := by simp; omega
      have e3 : (!decide (a < 0)) = true := by rw [decide_eq_false sa]; rfl
      have e2 : (a == -1) = false := by simp; omega
      have hgood := Lib.hid (rowsM_more hok.out ha hb hrm)
      · clear ha hb hrm sb
        have hb9 := hbr
        have BM9 := BMr
        go_wp2_with fail
        refine (within_b _ _ _ _ _ hx).mono ?_
        rintro e wz0 ⟨rfl, hbq⟩
        have c1 := ext_cell hbq c1
        have hb9 := Lib.hid (ext_trans hb9.out hbq)
        have BM9 := Lib.hid (BM9.out.ext hbq)
        have hbb := Nat.lt_of_lt_of_le hbb hbq.size
        clear d0 d1 d2 d3 d4 d5 d6 hbq
        obtain ⟨d0, d1, d2, d3, d4, d5, d6⟩ := BM9.out.q7
        go_wp2_with fail
        refine (within_b _ _ _ _ _ hy).mono ?_
        rintro e wz1 ⟨rfl, hbq⟩
        have c1 := ext_cell hbq c1
        have hb9 := Lib.hid (ext_trans hb9.out hbq)
        have BM9 := Lib.hid (BM9.out.ext hbq)
        have hbb := Nat.lt_of_lt_of_le hbb hbq.size
        clear d0 d1 d2 d3 d4 d5 d6 hbq
        obtain ⟨d0, d1, d2, d3, d4, d5, d6⟩ := BM9.out.q7
        go_wp2
        go_roundw
        case rel => exact ⟨j + 1, by omega, by go_num, hgood, hb9, BM9⟩
        case measure => simp [intOf]; omega
  · obtain rfl : j = n := by omega
    go_wp2
    go_ret
    exact ⟨ret_bool (by rw [hok.out]), hbr.out⟩
set_option maxRecDepth 100000 in
set_option maxHeartbeats 4000000 in
theorem l21Good_any (u lo : Int) (A : Option Addr) (n c : Nat) (l : List R2) (K : Option Addr) (k kc : Nat) (cl : List Int) (I : Option Addr) (m ic : Nat) (im : List Int) (be gu : Int) (w : World) (hn : n ≤ 1048576) (hk : k ≤ 1048576) (hm : m ≤ 1048576) (h : Reads w w.heap.size 2 A n (rowsV2 l)) (hc : Reads w w.heap.size 1 K k (intsV cl)) (hi : Reads w w.heap.size 1 I m (intsV im)) :
 Calls Try.prog 98 #[mdV u lo A n c K k kc I m ic be gu] w (RetV (.bool (mindB u lo l cl im be gu)) w) := by
 have hl := rows_len2 h
 have hcl := ints_len hc
 have hil := ints_len hi
 have H := Lib.hid h
 have HC := Lib.hid hc
 have HI := Lib.hid hi
 have E := Lib.hid (show mindB u lo l cl im be gu = (goodB u lo l && decide (m = n) && decide (k = n) && inB be 0 9999 && inB gu 0 9999 && rowsM im cl n) by unfold mindB; rw [hl, hcl, hil])
 rw [E.out]
 clear h hc hi E
 cases hg0 : goodB u lo l
 · rw [show (false && decide (m = n) && decide (k = n) && inB be 0 9999 && inB gu 0 9999 && rowsM im cl n) = false by simp]
   have hgd := Lib.hid hg0
   clear hg0
   go_enter Try.func98, Try.ntmps98
   go_wp2_with fail
   refine (l2Standard_b u lo A n c l _ _ hn (rdx H.out (ext_alloc (ext_refl w) _)) hgd.out).mono ?_
   rintro e w1 ⟨rfl, hb1⟩
   obtain ⟨BM0, hb20, hs2⟩ := box_mind (by simpa using hb1)
   have hb2 := Lib.hid hb20
   have BM := Lib.hid BM0
   obtain ⟨d0, d1, d2, d3, d4, d5, d6⟩ := BM.out.q7
   clear hb1 hb20 BM0
   go_wp2
   go_ret
   exact ⟨rfl, hb2.out⟩
 have hn8 := (frB_head (good_fr hg0)).2.2.2
 rw [hl] at hn8
 have hgd := Lib.hid hg0
 clear hg0
 by_cases hqk : k ≠ n
 · rw [show (true && decide (m = n) && decide (k = n) && inB be 0 9999 && inB gu 0 9999 && rowsM im cl n) = false by simp [hqk]]
   have hek : ((k : Int) != (n : Int)) = true := by simp; omega
   go_enter Try.func98, Try.ntmps98
   go_wp2_with fail
   refine (l2Standard_b u lo A n c l _ _ hn (rdx H.out (ext_alloc (ext_refl w) _)) hgd.out).mono ?_
   rintro e w1 ⟨rfl, hb1⟩
   obtain ⟨BM0, hb20, hs2⟩ := box_mind (by simpa using hb1)
   have hb2 := Lib.hid hb20
   have BM := Lib.hid BM0
   obtain ⟨d0, d1, d2, d3, d4, d5, d6⟩ := BM.out.q7
   clear hb1 hb20 BM0
   go_wp2
   go_ret
   exact ⟨rfl, hb2.out⟩
 have hqk : k = n := by omega
 have hek : ((k : Int) != (n : Int)) = false := by simp; omega
 by_cases hqm : m ≠ n
 · rw [show (true && decide (m = n) && decide (k = n) && inB be 0 9999 && inB gu 0 9999 && rowsM im cl n) = false by simp [hqm]]
   have hem : ((m : Int) != (n : Int)) = true := by simp; omega
   go_enter Try.func98, Try.ntmps98
   go_wp2_with fail
   refine (l2Standard_b u lo A n c l _ _ hn (rdx H.out (ext_alloc (ext_refl w) _)) hgd.out).mono ?_
   rintro e w1 ⟨rfl, hb1⟩
   obtain ⟨BM0, hb20, hs2⟩ := box_mind (by simpa using hb1)
   have hb2 := Lib.hid hb20
   have BM := Lib.hid BM0
   obtain ⟨d0, d1, d2, d3, d4, d5, d6⟩ := BM.out.q7
   clear hb1 hb20 BM0
   go_wp2
   go_ret
   exact ⟨rfl, hb2.out⟩
 have hqm : m = n := by omega
 have hem : ((m : Int) != (n : Int)) = false := by simp; omega
 cases hbe : inB be 0 9999
 · rw [show (true && decide (m = n) && decide (k = n) && false && inB gu 0 9999 && rowsM im cl n) = false by simp]
   go_enter Try.func98, Try.ntmps98
   go_wp2_with fail
   refine (l2Standard_b u lo A n c l _ _ hn (rdx H.out (ext_alloc (ext_refl w) _)) hgd.out).mono ?_
   rintro e w1 ⟨rfl, hb1⟩
   obtain ⟨BM0, hb20, hs2⟩ := box_mind (by simpa using hb1)
   have hb2 := Lib.hid hb20
   have BM := Lib.hid BM0
   obtain ⟨d0, d1, d2, d3, d4, d5, d6⟩ := BM.out.q7
   clear hb1 hb20 BM0
   go_wp2_with fail
   refine (l1In_b _ _ _ _ _ hbe).mono ?_
   rintro e wq_hbe ⟨rfl, hbq⟩
   have hb2 := Lib.hid (ext_trans hb2.out hbq)
   have BM := Lib.hid (BM.out.ext hbq)
   have hs2 := Nat.lt_of_lt_of_le hs2 hbq.size
   clear hbq d0 d1 d2 d3 d4 d5 d6
   obtain ⟨d0, d1, d2, d3, d4, d5, d6⟩ := BM.out.q7
   go_wp2
   go_ret
   exact ⟨rfl, hb2.out⟩
 cases hgu : inB gu 0 9999
 · rw [show (true && decide (m = n) && decide (k = n) && true && false && rowsM im cl n) = false by simp]
   go_enter Try.func98, Try.ntmps98
   go_wp2_with fail
   refine (l2Standard_b u lo A n c l _ _ hn (rdx H.out (ext_alloc (ext_refl w) _)) hgd.out).mono ?_
   rintro e w1 ⟨rfl, hb1⟩
   obtain ⟨BM0, hb20, hs2⟩ := box_mind (by simpa using hb1)
   have hb2 := Lib.hid hb20
   have BM := Lib.hid BM0
   obtain ⟨d0, d1, d2, d3, d4, d5, d6⟩ := BM.out.q7
   clear hb1 hb20 BM0
   go_wp2_with fail
   refine (l1In_b _ _ _ _ _ hbe).mono ?_
   rintro e wq_hbe ⟨rfl, hbq⟩
   have hb2 := Lib.hid (ext_trans hb2.out hbq)
   have BM := Lib.hid (BM.out.ext hbq)
   have hs2 := Nat.lt_of_lt_of_le hs2 hbq.size
   clear hbq d0 d1 d2 d3 d4 d5 d6
   obtain ⟨d0, d1, d2, d3, d4, d5, d6⟩ := BM.out.q7
   go_wp2_with fail
   refine (l1In_b _ _ _ _ _ hgu).mono ?_
   rintro e wq_hgu ⟨rfl, hbq⟩
   have hb2 := Lib.hid (ext_trans hb2.out hbq)
   have BM := Lib.hid (BM.out.ext hbq)
   have hs2 := Nat.lt_of_lt_of_le hs2 hbq.size
   clear hbq d0 d1 d2 d3 d4 d5 d6
   obtain ⟨d0, d1, d2, d3, d4, d5, d6⟩ := BM.out.q7
   go_wp2
   go_ret
   exact ⟨rfl, hb2.out⟩
 rw [show (true && decide (m = n) && decide (k = n) && true && true && rowsM im cl n) = rowsM im cl n by simp [hqm, hqk]]
 have hqm' := hqm.symm
 have hqk' := hqk.symm
 clear hqm hqk
 subst hqm' hqk'
 go_enter Try.func98, Try.ntmps98
 go_wp2_with fail
 refine (l2Standard_b u lo A n c l _ _ hn (rdx H.out (ext_alloc (ext_refl w) _)) hgd.out).mono ?_
 rintro e w1 ⟨rfl, hb1⟩
 obtain ⟨BM0, hb20, hs2⟩ := box_mind (by simpa using hb1)
 have hb2 := Lib.hid hb20
 have BM := Lib.hid BM0
 obtain ⟨d0, d1, d2, d3, d4, d5, d6⟩ := BM.out.q7
 clear hb1 hb20 BM0
 go_wp2_with fail
 refine (l1In_b _ _ _ _ _ hbe).mono ?_
 rintro e wq_hbe ⟨rfl, hbq⟩
 have hb2 := Lib.hid (ext_trans hb2.out hbq)
 have BM := Lib.hid (BM.out.ext hbq)
 have hs2 := Nat.lt_of_lt_of_le hs2 hbq.size
 clear hbq d0 d1 d2 d3 d4 d5 d6
 obtain ⟨d0, d1, d2, d3, d4, d5, d6⟩ := BM.out.q7
 go_wp2_with fail
 refine (l1In_b _ _ _ _ _ hgu).mono ?_
 rintro e wq_hgu ⟨rfl, hbq⟩
 have hb2 := Lib.hid (ext_trans hb2.out hbq)
 have BM := Lib.hid (BM.out.ext hbq)
 have hs2 := Nat.lt_of_lt_of_le hs2 hbq.size
 clear hbq d0 d1 d2 d3 d4 d5 d6
 obtain ⟨d0, d1, d2, d3, d4, d5, d6⟩ := BM.out.q7
 go_wp2
 go_loopw [4] (fun i wr => ∃ j : Nat, j ≤ n ∧ i = .int .i64 j ∧ Hid (rowsM im cl j = true) ∧ Hid (Below w.heap.size w wr) ∧ Hid (Blk wr w.heap.size 47 (mdC u lo A n c K n kc I n ic be gu))) (fun i _ => n - (intOf i).toNat)
 case atStart => exact ⟨0, Nat.zero_le _, rfl, Lib.hid rfl, hb2, BM⟩
 case round =>
  obtain ⟨j, hj, rfl, hok, hbr, BMr⟩ := hrel
  obtain ⟨d0, d1, d2, d3, d4, d5, d6⟩ := BMr.out.q7
  have hsr := BMr.out.lt
  by_cases hlt : j < n
  · obtain ⟨a, ha⟩ := list_split (l := im) (k := j) (by omega)
    obtain ⟨b, hb⟩ := list_split (l := cl) (k := j) (by omega)
    obtain ⟨ba, oa, rfl, hba, c0⟩ := ints_at (rdx HI.out hbr.out) ha
    obtain ⟨bb, ob, rfl, hbb, c1⟩ := ints_at (rdx HC.out hbr.out) hb
    cases hx : inB a (-1) 9
    · have hbad := Lib.hid (rowsM_bad hlt ha hb (by simp [rowM, hx]))
      · clear ha hb
        go_wp2
        (refine wp_region_later (by kernel_rfl) (by kernel_rfl) ?_; (repeat (go_big_quiet_step (first | (go_at_call 121; with_reducible exact Calls.later_of (l1In_b _ _ _ _ _ hx))))); refine wpQuiet_nil ?_; intro w1 hw1; obtain ⟨⟨wl, hbL⟩, hw1'⟩ := hw1; simp only at hw1'; subst hw1'; obtain ⟨hcL, hfL⟩ := bcell hbL)
        have hb9 := Lib.hid (ext_trans hbr.out hbL)
        have BM9 := Lib.hid (BMr.out.ext hbL)
        clear hbL hcL hfL
        go_wp2
        go_ret
        exact ⟨ret_bool (by rw [hbad.out]), hb9.out⟩
    cases hy : inB b 0 5
    · have hbad := Lib.hid (rowsM_bad hlt ha hb (by simp [rowM, hy]))
      · clear ha hb
        go_wp2
        (refine wp_region_later (by kernel_rfl) (by kernel_rfl) ?_; (repeat (go_big_quiet_step (first | (go_at_call 121; with_reducible exact Calls.later_of (l1In_b _ _ _ _ _ hx)) | (go_at_call 121; with_reducible exact Calls.later_of (l1In_b _ _ _ _ _ hy))))); refine wpQuiet_nil ?_; intro w1 hw1; obtain ⟨⟨wl, hbL⟩, hw1'⟩ := hw1; simp only at hw1'; subst hw1'; obtain ⟨hcL, hfL⟩ := bcell hbL)
        have hb9 := Lib.hid (ext_trans hbr.out hbL)
        have BM9 := Lib.hid (BMr.out.ext hbL)
        clear hbL hcL hfL
        go_wp2
        go_ret
        exact ⟨ret_bool (by rw [hbad.out]), hb9.out⟩
    obtain ⟨ax, ay⟩ := inB_iff.1 hx
    obtain ⟨bx, byy⟩ := inB_iff.1 hy
    rcases (show (a < 0 ∧ b = 0) ∨ (a < 0 ∧ b ≠ 0) ∨ (¬ a < 0 ∧ b = 0) ∨ (¬ a < 0 ∧ b ≠ 0) by omega) with ⟨sa, sb⟩ | ⟨sa, sb⟩ | ⟨sa, sb⟩ | ⟨sa, sb⟩
    · subst sb
      have hrm : rowM a 0 = true := by unfold rowM; rw [hx, hy, decide_eq_true sa]; rfl
      have e3 : (!decide (a < 0)) = false := by rw [decide_eq_true sa]; rfl
      have e2 : (a == -1) = true := by simp; omega
      have hgood := Lib.hid (rowsM_more hok.out ha hb hrm)
      · clear ha hb hrm
        go_wp2
        (refine wp_region_later (by kernel_rfl) (by kernel_rfl) ?_; (repeat (go_big_quiet_step (first | (go_at_call 121; with_reducible exact Calls.later_of (l1In_b _ _ _ _ _ hx)) | (go_at_call 121; with_reducible exact Calls.later_of (l1In_b _ _ _ _ _ hy))))); refine wpQuiet_nil ?_; intro w1 hw1; obtain ⟨⟨wl, hbL⟩, hw1'⟩ := hw1; simp only at hw1'; subst hw1'; obtain ⟨hcL, hfL⟩ := bcell hbL)
        have hb9 := Lib.hid (ext_trans hbr.out hbL)
        have BM9 := Lib.hid (BMr.out.ext hbL)
        clear hbL hcL hfL
        go_wp2
        go_roundw
        case rel => exact ⟨j + 1, by omega, by go_num, hgood, hb9, BM9⟩
        case measure => simp [intOf]; omega
    · have hrm : rowM a b = false := by unfold rowM; rw [hx, hy, decide_eq_true sa, decide_eq_false sb]; rfl
      have e1 : (b == 0) = false := by simp; omega
      have e3 : (!decide (a < 0)) = false := by rw [decide_eq_true sa]; rfl
      have e2 : (a == -1) = true := by simp; omega
      have hbad := Lib.hid (rowsM_bad hlt ha hb hrm)
      · clear ha hb hrm sb
        go_wp2
        (refine wp_region_later (by kernel_rfl) (by kernel_rfl) ?_; (repeat (go_big_quiet_step (first | (go_at_call 121; with_reducible exact Calls.later_of (l1In_b _ _ _ _ _ hx)) | (go_at_call 121; with_reducible exact Calls.later_of (l1In_b _ _ _ _ _ hy))))); refine wpQuiet_nil ?_; intro w1 hw1; obtain ⟨⟨wl, hbL⟩, hw1'⟩ := hw1; simp only at hw1'; subst hw1'; obtain ⟨hcL, hfL⟩ := bcell hbL)
        have hb9 := Lib.hid (ext_trans hbr.out hbL)
        have BM9 := Lib.hid (BMr.out.ext hbL)
        clear hbL hcL hfL
        go_wp2
        go_ret
        exact ⟨ret_bool (by rw [hbad.out]), hb9.out⟩
    · subst sb
      have hrm : rowM a 0 = false := by unfold rowM; rw [hx, hy, decide_eq_false sa]; rfl
      have e3 : (!decide (a < 0)) = true := by rw [decide_eq_false sa]; rfl
      have e2 : (a == -1) = false := by simp; omega
      have hbad := Lib.hid (rowsM_bad hlt ha hb hrm)
      · clear ha hb hrm
        go_wp2
        (refine wp_region_later (by kernel_rfl) (by kernel_rfl) ?_; (repeat (go_big_quiet_step (first | (go_at_call 121; with_reducible exact Calls.later_of (l1In_b _ _ _ _ _ hx)) | (go_at_call 121; with_reducible exact Calls.later_of (l1In_b _ _ _ _ _ hy))))); refine wpQuiet_nil ?_; intro w1 hw1; obtain ⟨⟨wl, hbL⟩, hw1'⟩ := hw1; simp only at hw1'; subst hw1'; obtain ⟨hcL, hfL⟩ := bcell hbL)
        have hb9 := Lib.hid (ext_trans hbr.out hbL)
        have BM9 := Lib.hid (BMr.out.ext hbL)
        clear hbL hcL hfL
        go_wp2
        go_ret
        exact ⟨ret_bool (by rw [hbad.out]), hb9.out⟩
    · have hrm : rowM a b = true := by unfold rowM; rw [hx, hy, decide_eq_false sa, decide_eq_false sb]; rfl
      have e1 : (b == 0) = false := by simp; omega
      have e3 : (!decide (a < 0)) = true := by rw [decide_eq_false sa]; rfl
      have e2 : (a == -1) = false := by simp; omega
      have hgood := Lib.hid (rowsM_more hok.out ha hb hrm)
      · clear ha hb hrm sb
        go_wp2
        (refine wp_region_later (by kernel_rfl) (by kernel_rfl) ?_; (repeat (go_big_quiet_step (first | (go_at_call 121; with_reducible exact Calls.later_of (l1In_b _ _ _ _ _ hx)) | (go_at_call 121; with_reducible exact Calls.later_of (l1In_b _ _ _ _ _ hy))))); refine wpQuiet_nil ?_; intro w1 hw1; obtain ⟨⟨wl, hbL⟩, hw1'⟩ := hw1; simp only at hw1'; subst hw1'; obtain ⟨hcL, hfL⟩ := bcell hbL)
        have hb9 := Lib.hid (ext_trans hbr.out hbL)
        have BM9 := Lib.hid (BMr.out.ext hbL)
        clear hbL hcL hfL
        go_wp2
        go_roundw
        case rel => exact ⟨j + 1, by omega, by go_num, hgood, hb9, BM9⟩
        case measure => simp [intOf]; omega
  · obtain rfl : j = n := by omega
    go_wp2
    go_ret
    exact ⟨ret_bool (by rw [hok.out]), hbr.out⟩
end Go.Proofs.Ytlkfffohjeoooaa
