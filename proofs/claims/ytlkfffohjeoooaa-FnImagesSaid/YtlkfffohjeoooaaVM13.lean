/- NewMind, both. -/
import Derived.Test.YtlkfffohjeoooaaVMdV
namespace Go.Proofs.Ytlkfffohjeoooaa
open Go.RowKit
set_option linter.unusedVariables false
set_option linter.unusedSimpArgs false
def newO (u lo : Int) (l : List R2) : Option Md := if goodB u lo l = true then some ⟨u, lo, l, List.replicate l.length 5, dsOf l, 0, 0⟩ else none
set_option maxRecDepth 100000 in
set_option maxHeartbeats 8000000 in
theorem specNewMind_any (u lo : Int) (A : Option Addr) (n c : Nat) (l : List R2) (w : World) (hn : n ≤ 1048576) (h : Reads w w.heap.size 2 A n (rowsV2 l)) :
 Calls Try.prog 70 #[frV u lo A n c] w (RetSt w (newO u lo l)) := by
 have hl := rows_len2 h
 have H := Lib.hid h
 have hbx := Lib.hid (ext_alloc (ext_alloc (ext_refl w) (.cells #[.int .i64 u, .int .i64 lo, .slice A n c] 29)) (.cells #[.int .i64 0, .int .i64 0, .slice none 0 0, .slice none 0 0, .slice none 0 0, .int .i64 0, .int .i64 0] 47))
 have BF0 := Lib.hid ((Blk.born w #[.int .i64 u, .int .i64 lo, .slice A n c] 29 (H := w.heap.size) rfl).al (.cells #[.int .i64 0, .int .i64 0, .slice none 0 0, .slice none 0 0, .slice none 0 0, .int .i64 0, .int .i64 0] 47))
 have BR0 := Lib.hid (Blk.born (w.alloc (.cells #[.int .i64 u, .int .i64 lo, .slice A n c] 29)) #[.int .i64 0, .int .i64 0, .slice none 0 0, .slice none 0 0, .slice none 0 0, .int .i64 0, .int .i64 0] 47 (H := w.heap.size + 1) (by simp))
 clear h
 cases hg : goodB u lo l
 · rw [show newO u lo l = none by unfold newO; rw [hg]; rfl]
   clear hl
   go_enter Try.func70, Try.ntmps70
   go_wp2_with fail
   refine (l2Standard_b u lo A n c l _ _ hn (rdx H.out hbx.out) hg).mono ?_
   rintro e w1 ⟨rfl, hb⟩
   have BF1 := Lib.hid (BF0.out.ext hb)
   have BR1 := Lib.hid (BR0.out.ext hb)
   have HB1 := Lib.hid (ext_trans hbx.out hb)
   obtain ⟨d0, d1, d2⟩ := BF1.out.q3
   obtain ⟨r0, r1, r2, r3, r4, r5, r6⟩ := BR1.out.q7
   obtain ⟨y0, y1, y2, y3, y4, y5, y6⟩ := BR1.out.z7
   have lf := BF1.out.lt
   have lr := BR1.out.lt
   clear hb
   go_wp2
   refine bodyPost_ret (v := .tuple #[mdV 0 0 none 0 0 none 0 0 none 0 0 0 0, .bool false]) (by simp [results, Try.results70, go_sem, *]) rfl ?_
   exact ⟨rfl, m7_below HB1.out (by omega)⟩
 · rw [show newO u lo l = some ⟨u, lo, l, List.replicate l.length 5, dsOf l, 0, 0⟩ by unfold newO; rw [if_pos hg]]
   obtain ⟨_, _, hn1, hn8⟩ := frB_head (good_fr hg)
   subst hl
   have HG := Lib.hid hg
   go_enter Try.func70, Try.ntmps70
   go_wp2_with fail
   refine (l2Standard_b u lo A l.length c l _ _ hn (rdx H.out hbx.out) hg).mono ?_
   rintro e w1 ⟨rfl, hb⟩
   have BF1 := Lib.hid (BF0.out.ext hb)
   have BR1 := Lib.hid (BR0.out.ext hb)
   have HB1 := Lib.hid (ext_trans hbx.out hb)
   obtain ⟨d0, d1, d2⟩ := BF1.out.q3
   obtain ⟨r0, r1, r2, r3, r4, r5, r6⟩ := BR1.out.q7
   obtain ⟨y0, y1, y2, y3, y4, y5, y6⟩ := BR1.out.z7
   have lf := BF1.out.lt
   have lr := BR1.out.lt
   clear hb
   clear hg
   have hs0 := HB1.out.size
   go_wp2_with fail
   (with_reducible refine (l21Look_one u lo A l.length c l none 0 0 none 0 0 0 0 _ HG.out (rdx H.out HB1.out)).mono ?_)
   rintro e w2 ⟨h, cr, g, kc, i, ic, rfl, hr, hc, hi, hne, hb2⟩
   have BR2 := Lib.hid (BR1.out.ext hb2)
   have HB2 := Lib.hid (ext_trans HB1.out hb2)
   have HR2 := Lib.hid (own_base (base' := w.heap.size) hr hs0)
   have HC2 := Lib.hid (own_base (base' := w.heap.size) hc hs0)
   have HI2 := Lib.hid (own_base (base' := w.heap.size) hi hs0)
   clear hb2 d0 d1 d2 r0 r1 r2 r3 r4 r5 r6 y0 y1 y2 y3 y4 y5 y6 lf lr
   obtain ⟨r0, r1, r2, r3, r4, r5, r6⟩ := BR2.out.q7
   obtain ⟨y0, y1, y2, y3, y4, y5, y6⟩ := BR2.out.z7
   have lr := BR2.out.lt
   go_wp2
   refine bodyPost_ret (v := .tuple #[mdV u lo (some ⟨h, 0, none⟩) l.length cr (some ⟨g, 0, none⟩) l.length kc (some ⟨i, 0, none⟩) l.length ic 0 0, .bool true]) (by simp [results, Try.results70, go_sem, *]) rfl ?_
   exact ⟨h, cr, g, kc, i, ic, rfl, m7_own HR2.out (own_nbT HR2.out BR2.out (by decide)), m7_own HC2.out (own_nbT HC2.out BR2.out (by decide)), m7_own HI2.out (own_nbT HI2.out BR2.out (by decide)), hne, m7_below HB2.out (by omega)⟩

set_option maxRecDepth 100000 in
set_option maxHeartbeats 8000000 in
theorem implNewMind_any (u lo : Int) (A : Option Addr) (n c : Nat) (l : List R2) (w : World) (hn : n ≤ 1048576) (h : Reads w w.heap.size 2 A n (rowsV2 l)) :
 Calls Try.prog 69 #[frV u lo A n c] w (RetSt w (newO u lo l)) := by
 have hl := rows_len2 h
 have H := Lib.hid h
 have hbx := Lib.hid (ext_alloc (ext_alloc (ext_refl w) (.cells #[.int .i64 u, .int .i64 lo, .slice A n c] 29)) (.cells #[.int .i64 0, .int .i64 0, .slice none 0 0, .slice none 0 0, .slice none 0 0, .int .i64 0, .int .i64 0] 47))
 have BF0 := Lib.hid ((Blk.born w #[.int .i64 u, .int .i64 lo, .slice A n c] 29 (H := w.heap.size) rfl).al (.cells #[.int .i64 0, .int .i64 0, .slice none 0 0, .slice none 0 0, .slice none 0 0, .int .i64 0, .int .i64 0] 47))
 have BR0 := Lib.hid (Blk.born (w.alloc (.cells #[.int .i64 u, .int .i64 lo, .slice A n c] 29)) #[.int .i64 0, .int .i64 0, .slice none 0 0, .slice none 0 0, .slice none 0 0, .int .i64 0, .int .i64 0] 47 (H := w.heap.size + 1) (by simp))
 clear h
 cases hg : goodB u lo l
 · rw [show newO u lo l = none by unfold newO; rw [hg]; rfl]
   clear hl
   go_enter Try.func69, Try.ntmps69
   go_wp2_with fail
   refine (beginGood u lo A n c l _ hn (rdx H.out hbx.out)).mono ?_
   rw [hg]
   rintro e w1 ⟨⟨pp, rfl⟩, hb⟩
   have BF1 := Lib.hid (BF0.out.ext hb)
   have BR1 := Lib.hid (BR0.out.ext hb)
   have HB1 := Lib.hid (ext_trans hbx.out hb)
   obtain ⟨d0, d1, d2⟩ := BF1.out.q3
   obtain ⟨r0, r1, r2, r3, r4, r5, r6⟩ := BR1.out.q7
   obtain ⟨y0, y1, y2, y3, y4, y5, y6⟩ := BR1.out.z7
   have lf := BF1.out.lt
   have lr := BR1.out.lt
   clear hb
   go_wp2
   refine bodyPost_ret (v := .tuple #[mdV 0 0 none 0 0 none 0 0 none 0 0 0 0, .bool false]) (by simp [results, Try.results69, go_sem, *]) rfl ?_
   exact ⟨rfl, m7_below HB1.out (by omega)⟩
 · rw [show newO u lo l = some ⟨u, lo, l, List.replicate l.length 5, dsOf l, 0, 0⟩ by unfold newO; rw [if_pos hg]]
   obtain ⟨_, _, hn1, hn8⟩ := frB_head (good_fr hg)
   subst hl
   have HG := Lib.hid hg
   go_enter Try.func69, Try.ntmps69
   go_wp2_with fail
   refine (beginGood u lo A l.length c l _ hn (rdx H.out hbx.out)).mono ?_
   rw [hg]
   rintro e w1 ⟨⟨pp, rfl⟩, hb⟩
   have BF1 := Lib.hid (BF0.out.ext hb)
   have BR1 := Lib.hid (BR0.out.ext hb)
   have HB1 := Lib.hid (ext_trans hbx.out hb)
   obtain ⟨d0, d1, d2⟩ := BF1.out.q3
   obtain ⟨r0, r1, r2, r3, r4, r5, r6⟩ := BR1.out.q7
   obtain ⟨y0, y1, y2, y3, y4, y5, y6⟩ := BR1.out.z7
   have lf := BF1.out.lt
   have lr := BR1.out.lt
   clear hb
   clear hg
   have hs0 := HB1.out.size
   go_wp2_with fail
   (with_reducible refine (own_fr u lo A l.length c l _ hn1 hn (rdx H.out HB1.out)).mono ?_)
   rintro e w3 ⟨h, cr, rfl, hr, hb3⟩
   have HR3 := Lib.hid hr
   have hs3 := hb3.size
   have BR3 := Lib.hid (BR1.out.ext hb3)
   have HB3 := Lib.hid (ext_trans HB1.out hb3)
   clear hr hb3
   go_wp2_with fail
   (with_reducible refine (looked_any u lo (some ⟨h, 0, none⟩) l.length cr l none 0 0 none 0 0 0 0 _ HG.out (Reads.of_own HR3.out)).mono ?_)
   rintro e w2 ⟨g, kc, i, ic, rfl, hc, hi, hne, hb2⟩
   have BR2 := Lib.hid (BR3.out.ext hb2)
   have HB2 := Lib.hid (ext_trans HB3.out hb2)
   have HR2 := Lib.hid (own_base (base' := w.heap.size) (own_ext HR3.out hb2) hs0)
   have HC2 := Lib.hid (own_base (base' := w.heap.size) hc (Nat.le_trans hs0 hs3))
   have HI2 := Lib.hid (own_base (base' := w.heap.size) hi (Nat.le_trans hs0 hs3))
   clear hb2 d0 d1 d2 r0 r1 r2 r3 r4 r5 r6 y0 y1 y2 y3 y4 y5 y6 lf lr
   obtain ⟨r0, r1, r2, r3, r4, r5, r6⟩ := BR2.out.q7
   obtain ⟨y0, y1, y2, y3, y4, y5, y6⟩ := BR2.out.z7
   have lr := BR2.out.lt
   go_wp2
   refine bodyPost_ret (v := .tuple #[mdV u lo (some ⟨h, 0, none⟩) l.length cr (some ⟨g, 0, none⟩) l.length kc (some ⟨i, 0, none⟩) l.length ic 0 0, .bool true]) (by simp [results, Try.results69, go_sem, *]) rfl ?_
   exact ⟨h, cr, g, kc, i, ic, rfl, m7_own HR2.out (own_nbT HR2.out BR2.out (by decide)), m7_own HC2.out (own_nbT HC2.out BR2.out (by decide)), m7_own HI2.out (own_nbT HI2.out BR2.out (by decide)), hne, m7_below HB2.out (by omega)⟩

end Go.Proofs.Ytlkfffohjeoooaa
namespace Go.Proofs.Ytlkfffohjeoooaa
open Go.RowKit
set_option linter.unusedVariables false
set_option linter.unusedSimpArgs false
set_option maxRecDepth 100000 in
set_option maxHeartbeats 2000000 in
theorem implNumberOn_any (u lo : Int) (A : Option Addr) (n c : Nat) (l : List R2) (w : World) (hn : n ≤ 1048576) (h : Reads w w.heap.size 2 A n (rowsV2 l)) :
 Calls Try.prog 51 #[frV u lo A n c] w fun e w' => e = .returned (.tuple #[.int .i64 (if frB u lo l = true then numR l else 0), .bool (frB u lo l)]) ∧ Below w.heap.size w w' := by
 have H := Lib.hid h
 have hbx := Lib.hid (ext_alloc (ext_refl w) (.cells #[.int .i64 u, .int .i64 lo, .slice A n c] 29))
 have BF0 := Lib.hid (Blk.born w #[.int .i64 u, .int .i64 lo, .slice A n c] 29 (H := w.heap.size) rfl)
 have HI := Lib.hid (fun (w : World) a => isFrame_any u lo A n c l w hn a)
 clear h
 cases hf : frB u lo l
 · rw [hf] at HI
   rw [if_neg (by decide)]
   go_enter Try.func51, Try.ntmps51
   go_wp2_with fail
   refine (HI.out _ (rdx H.out hbx.out)).mono ?_
   rintro e w1 ⟨rfl, hb⟩
   go_wp2
   go_ret2
   exact ⟨rfl, ext_trans hbx.out hb⟩
 · rw [hf] at HI
   rw [if_pos rfl]
   have HF := Lib.hid hf
   clear hf
   go_enter Try.func51, Try.ntmps51
   go_wp2_with fail
   refine (HI.out _ (rdx H.out hbx.out)).mono ?_
   rintro e w1 ⟨rfl, hb⟩
   have BF1 := Lib.hid (BF0.out.ext hb)
   have HB1 := Lib.hid (ext_trans hbx.out hb)
   clear hb
   obtain ⟨d0, d1, d2⟩ := BF1.out.q3
   have lf := BF1.out.lt
   go_wp2_with fail
   refine (number_any u lo A n c l _ HF.out (rdx H.out HB1.out)).mono ?_
   rintro e w2 ⟨rfl, hb⟩
   go_wp2
   go_ret2
   exact ⟨rfl, ext_trans HB1.out hb⟩
/-- the number that digits say, the first first -/
def nimL (im : List Int) (k : Nat) : Int := (im.take k).foldl (fun s d => 10 * s + d) 0
theorem nimL_more {im : List Int} {k : Nat} {d : Int} (h : im[k]? = some d) : nimL im (k + 1) = 10 * nimL im k + d := by
 unfold nimL
 rw [List.take_add_one, h, Option.toList_some, List.foldl_append]
 rfl
theorem nimL_bound {im : List Int} {k : Nat} (h : ∀ j d, j < k → im[j]? = some d → 0 ≤ d ∧ d ≤ 9) : 0 ≤ nimL im k ∧ nimL im k < 10 ^ k := by
 induction k with
 | zero => simp [nimL]
 | succ k ih =>
   have h1 := ih (fun j d hj hd => h j d (by omega) hd)
   cases hd : im[k]? with
   | none =>
     have : nimL im (k + 1) = nimL im k := by unfold nimL; rw [List.take_add_one, hd]; simp
     rw [this, Int.pow_succ]
     omega
   | some d =>
     have h2 := h k d (by omega) hd
     rw [nimL_more hd, Int.pow_succ]
     omega
theorem ten_le {k : Nat} (h : k ≤ 8) : (10 : Int) ^ k ≤ 100000000 := pw_lt h
def nimO (q : Md) : Option Int := if mdOK q = true ∧ ∀ d ∈ q.im, ¬ d < 0 then some (nimL q.im q.im.length) else none
def RetNim (w : World) (o : Option Int) (e : Ending) (w' : World) : Prop := e = .returned (.tuple #[.int .i64 (o.getD 0), .bool o.isSome]) ∧ Below w.heap.size w w'
set_option maxRecDepth 100000 in
set_option maxHeartbeats 4000000 in
theorem implNumberInMind_any (u lo : Int) (A : Option Addr) (n c : Nat) (l : List R2) (K : Option Addr) (k' kc : Nat) (cl : List Int) (I : Option Addr) (m' ic : Nat) (im : List Int) (be gu : Int) (w : World) (hn : n ≤ 1048576) (hk : k' ≤ 1048576) (hm : m' ≤ 1048576) (h : Reads w w.heap.size 2 A n (rowsV2 l)) (hc : Reads w w.heap.size 1 K k' (intsV cl)) (hi : Reads w w.heap.size 1 I m' (intsV im)) :
 Calls Try.prog 71 #[mdV u lo A n c K k' kc I m' ic be gu] w (RetNim w (nimO ⟨u, lo, l, cl, im, be, gu⟩)) := by
 have him := ints_len hi
 have hl := rows_len2 h
 have H := Lib.hid h
 have HC := Lib.hid hc
 have HI := Lib.hid hi
 have hbx := Lib.hid (ext_alloc (ext_refl w) (.cells (mdC u lo A n c K k' kc I m' ic be gu) 47))
 have BM0 := Lib.hid (Blk.born w (mdC u lo A n c K k' kc I m' ic be gu) 47 (H := w.heap.size) rfl)
 have HM := Lib.hid (fun (w : World) a b d => isMind_any u lo A n c l K k' kc cl I m' ic im be gu w hn hk hm a b d)
 cases hok : mdOK ⟨u, lo, l, cl, im, be, gu⟩
 · rw [show mindB u lo l cl im be gu = false from hok] at HM
   rw [show nimO ⟨u, lo, l, cl, im, be, gu⟩ = none by unfold nimO; rw [if_neg (by rw [hok]; simp)]]
   clear h hc hi him hl hok
   go_enter Try.func71, Try.ntmps71
   go_wp2_with fail
   refine (HM.out _ (rdx H.out hbx.out) (rdx HC.out hbx.out) (rdx HI.out hbx.out)).mono ?_
   rintro e w1 ⟨rfl, hb⟩
   go_wp2
   go_ret2
   exact ⟨rfl, ext_trans hbx.out hb⟩
 · obtain ⟨hgd, h1, h2, _, _, hrow⟩ := mdOK_parts hok
   dsimp only at h1 h2 hgd hrow
   have hn8 := (frB_head (good_fr hgd)).2.2.2
   have hm8 : m' ≤ 8 := by omega
   have hdig := Lib.hid (fun j d (hj : j < m') (hd : im[j]? = some d) => show -1 ≤ d ∧ d ≤ 9 by have := (rowM_iff.1 (rowsM_at hrow (k := j) (by omega))).1; rw [getD_of hd] at this; exact this)
   rw [show mindB u lo l cl im be gu = true from hok] at HM
   have HOK := Lib.hid hok
   have HIM := Lib.hid him
   clear h hc hi him hl hok hgd h1 h2 hrow hn8
   go_enter Try.func71, Try.ntmps71
   go_wp2_with fail
   refine (HM.out _ (rdx H.out hbx.out) (rdx HC.out hbx.out) (rdx HI.out hbx.out)).mono ?_
   rintro e w1 ⟨rfl, hb⟩
   have BM1 := Lib.hid (BM0.out.ext hb)
   have HB1 := Lib.hid (ext_trans hbx.out hb)
   clear hb
   obtain ⟨d0, d1, d2, d3, d4, d5, d6⟩ := BM1.out.q7
   have lm := BM1.out.lt
   go_wp2_with fail
   go_loopw [4, 13] (fun s ii wr => ∃ j : Nat, j ≤ m' ∧ ii = .int .i64 j ∧ s = .int .i64 (nimL im j) ∧ Hid (∀ i d, i < j → im[i]? = some d → ¬ d < 0) ∧ w1 = wr) (fun _ ii _ => m' - (intOf ii).toNat)
   case atStart => exact ⟨0, Nat.zero_le _, rfl, rfl, Lib.hid (by intro i d hi; omega), rfl⟩
   case round =>
    obtain ⟨j, hj, rfl, rfl, HP, hw⟩ := hrel
    subst hw
    by_cases hlt : j < m'
    · obtain ⟨d, hd⟩ := list_split (l := im) (k := j) (by rw [HIM.out]; exact hlt)
      obtain ⟨b, o, rfl, hb, c0⟩ := ints_at (rdx HI.out HB1.out) hd
      have e2 : (j : Int) < (m' : Int) := by omega
      obtain ⟨hd1, hd9⟩ := hdig.out j d hlt hd
      have hnb := nimL_bound (im := im) (k := j) (fun i x hi hx => by have := HP.out i x hi hx; have := hdig.out i x (by omega) hx; omega)
      have h10 := ten_le (k := j) (by omega)
      have HMORE := Lib.hid (nimL_more hd)
      have HD := Lib.hid hd
      obtain ⟨s, hs⟩ : ∃ s, nimL im j = s := ⟨_, rfl⟩
      rw [hs] at hnb HMORE ⊢
      have hs0 : 0 ≤ s := hnb.1
      have hs9 : s ≤ 100000000 := by omega
      clear hd hs hnb h10
      by_cases hneg : d < 0
      · have e3 : decide (d < 0) = true := by simpa using hneg
        have HNO := Lib.hid (show nimO ⟨u, lo, l, cl, im, be, gu⟩ = none by
         unfold nimO
         rw [if_neg]
         rintro ⟨_, hall⟩
         exact hall d (List.mem_of_getElem? HD.out) hneg)
        clear hneg
        go_wp2
        go_ret2
        rw [HNO.out]
        exact ⟨rfl, HB1.out⟩
      · have e3 : decide (d < 0) = false := by simpa using hneg
        have HP2 := Lib.hid (show ∀ i x, i < j + 1 → im[i]? = some x → ¬ x < 0 from fun i x hi hx => by
         rcases (show i < j ∨ i = j by omega) with h | h
         · exact HP.out i x h hx
         · subst h
           rw [HD.out] at hx
           injection hx with hx
           rw [← hx]
           exact hneg)
        clear hneg
        go_wp2
        go_roundw
        case rel => exact ⟨j + 1, by omega, by go_num, by rw [HMORE.out], HP2, by first | rfl | trivial⟩
        case measure => simp [intOf]; omega
    · obtain rfl : j = m' := by omega
      have HYES := Lib.hid (show nimO ⟨u, lo, l, cl, im, be, gu⟩ = some (nimL im j) by
       unfold nimO
       rw [if_pos ⟨HOK.out, fun d hd => by
        obtain ⟨i, hi, e⟩ := List.mem_iff_getElem.1 hd
        exact HP.out i d (by rw [← HIM.out]; exact hi) (by rw [List.getElem?_eq_getElem hi, e])⟩]
       show some (nimL im im.length) = _
       rw [HIM.out])
      go_wp2
      go_ret2
      rw [HYES.out]
      exact ⟨rfl, HB1.out⟩
end Go.Proofs.Ytlkfffohjeoooaa
