/- Minds: what the laws' helpers do. -/
import Derived.Test.YtlkfffohjeoooaaVM8
import Derived.Test.YtlkfffohjeoooaaVM5
namespace Go.Proofs.Ytlkfffohjeoooaa
open Go.RowKit
set_option linter.unusedVariables false
set_option linter.unusedSimpArgs false
theorem szIntS_any (A : Option Addr) (n c : Nat) (left : Int) (w : World) (hn : n ≤ 9223372036854775807) (h0 : 0 ≤ left) (h1 : left ≤ 1048576) :
 Calls Try.prog 97 #[.slice A n c, .int .i64 left] w fun e w' => e = .returned (.int .i64 (szv left n)) ∧ w = w' := by
 by_cases h : left < n
 · have h2 : left - (n : Int) < 0 := by omega
   rw [szv_no h]
   go_enter Try.func97, Try.ntmps97
   go_wp2
   go_ret
   exact ⟨rfl, rfl⟩
 · have h2 : ¬ left - (n : Int) < 0 := by omega
   rw [szv_yes h]
   go_enter Try.func97, Try.ntmps97
   go_wp2
   go_ret
   exact ⟨rfl, rfl⟩
set_option maxRecDepth 100000 in
set_option maxHeartbeats 1000000 in
theorem toIntS_any (A : Option Addr) (n c : Nat) (l : List Int) (w : World) (hn : n ≤ 1048576) (h : Reads w w.heap.size 1 A n (intsV l)) :
 Calls Try.prog 101 #[.slice A n c] w (RetSlice w 3 1 n (intsV l)) := by
 have hl := ints_len h
 have H := Lib.hid h
 have HL := Lib.hid hl
 clear h hl
 obtain ⟨i0, hi, hz0, hz1, hz2⟩ := info_parts info_int
 go_enter Try.func101, Try.ntmps101
 go_wp2_with (at_make; refine wpList_make_full _ rfl _ _ 40 rfl w.heap.size 3 i0 _ 1 Try.underlying40 hi hz0 hz1 .i64 .i64 _ _ n rfl rfl rfl rfl (by rw [hz2]; omega) (by unfold maxLen; omega) (Nat.le_refl _) ?_; intro w0 hown0 hgrow0)
 have hb0 : Below w.heap.size w w0 := (ext_refl w).grown hgrow0 (Nat.le_refl _) (fun _ h => by cases h)
 have hfill0 : Fill w0 w.heap.size 3 (n * 1) 0 (intsV l) := Fill.start (c := 0) hown0
 clear hown0 hgrow0
 go_loopw [4] (fun i wr => ∃ k : Nat, k ≤ n ∧ i = .int .i64 k ∧ Below w.heap.size w wr ∧ Fill wr w.heap.size 3 (n * 1) k (intsV l)) (fun i _ => n - (intOf i).toNat)
 case atStart => exact ⟨0, Nat.zero_le _, rfl, hb0, by simpa using hfill0⟩
 case round =>
  obtain ⟨k, hk, rfl, hbl, hfill⟩ := hrel
  by_cases hlt : k < n
  · obtain ⟨r, hr⟩ := list_split (l := l) (k := k) (by rw [HL.out]; exact hlt)
    obtain ⟨b, o, rfl, hb, c0⟩ := ints_at (H.out.ext hbl (Nat.le_refl _)) hr
    have hG := hfill.lt
    obtain ⟨u0, g0⟩ := hfill.cell (j := k) (by omega)
    have f0 := hfill.frozen k
    have hr := Lib.hid hr
    go_wp2
    go_roundw
    case rel =>
     refine ⟨k + 1, by omega, by go_num, ?_, ?_⟩
     · exact ext_set hbl (Nat.le_refl _) _
     · exact hfill.step (by omega) (intsV_get hr.out)
    case measure => simp [intOf]; omega
  · obtain rfl : k = n := by omega
    go_wp2
    go_ret
    exact ⟨_, _, rfl, Fill.done (by simpa using hfill) (Nat.le_refl _) (by unfold maxLen; omega) (by rw [intsV_len, HL.out]; omega), hbl⟩
def szMv (left : Int) (n k m : Nat) : Int := if left < n + k + m then -1 else left - n - k - m
theorem szMv_no {left : Int} {n k m : Nat} (h : left < n + k + m) : szMv left n k m = -1 := if_pos h
theorem szMv_yes {left : Int} {n k m : Nat} (h : ¬ left < n + k + m) : szMv left n k m = left - n - k - m := if_neg h
set_option maxHeartbeats 2000000 in
theorem szMind_any (u lo : Int) (A : Option Addr) (n c : Nat) (K : Option Addr) (k kc : Nat) (I : Option Addr) (m ic : Nat) (be gu : Int) (left : Int) (w : World) (hn : n ≤ 9223372036854775807) (hk : k ≤ 9223372036854775807) (hm : m ≤ 9223372036854775807) (h0 : 0 ≤ left) (h1 : left ≤ 1048576) :
 Calls Try.prog 26 #[mdV u lo A n c K k kc I m ic be gu, .int .i64 left] w fun e w' => e = .returned (.int .i64 (szMv left n k m)) ∧ Below w.heap.size w w' := by
 have BA0 := Lib.hid (Blk.born w (mdC u lo A n c K k kc I m ic be gu) 42 (H := w.heap.size) rfl)
 have hbx := Lib.hid (ext_alloc (ext_refl w) (.cells (mdC u lo A n c K k kc I m ic be gu) 42))
 have HS := Lib.hid (fun (w : World) => szFrame_any u lo A n c left w hn h0 h1)
 by_cases c1 : left < n
 · rw [szv_no c1] at HS
   rw [szMv_no (by omega)]
   go_enter Try.func26, Try.ntmps26
   go_wp2_with fail
   refine (HS.out _).mono ?_
   rintro e w1 ⟨rfl, hb⟩
   go_wp2
   go_ret
   exact ⟨rfl, ext_trans hbx.out hb⟩
 rw [szv_yes c1] at HS
 have p1 : ¬ left - (n : Int) < 0 := by omega
 have HK := Lib.hid (fun (w : World) => szIntS_any K k kc (left - n) w hk (by omega) (by omega))
 by_cases c2 : left - n < k
 · rw [szv_no c2] at HK
   rw [szMv_no (by omega)]
   go_enter Try.func26, Try.ntmps26
   go_wp2_with fail
   refine (HS.out _).mono ?_
   rintro e w1 ⟨rfl, hb⟩
   have BA1 := Lib.hid (BA0.out.ext hb)
   obtain ⟨d0, d1, d2, d3, d4, d5, d6⟩ := BA1.out.q7
   have la := BA1.out.lt
   have hbx := Lib.hid (ext_trans hbx.out hb)
   clear hb
   go_wp2_with fail
   refine (HK.out _).mono ?_
   rintro e w2 ⟨rfl, rfl⟩
   go_wp2
   go_ret
   exact ⟨rfl, hbx.out⟩
 rw [szv_yes c2] at HK
 have p2 : ¬ left - (n : Int) - (k : Int) < 0 := by omega
 have HI := Lib.hid (fun (w : World) => szIntS_any I m ic (left - n - k) w hm (by omega) (by omega))
 by_cases c3 : left - n - k < m
 · rw [szv_no c3] at HI
   rw [szMv_no (by omega)]
   go_enter Try.func26, Try.ntmps26
   go_wp2_with fail
   refine (HS.out _).mono ?_
   rintro e w1 ⟨rfl, hb⟩
   have BA1 := Lib.hid (BA0.out.ext hb)
   obtain ⟨d0, d1, d2, d3, d4, d5, d6⟩ := BA1.out.q7
   have la := BA1.out.lt
   have hbx := Lib.hid (ext_trans hbx.out hb)
   clear hb
   go_wp2_with fail
   refine (HK.out _).mono ?_
   rintro e w2 ⟨rfl, rfl⟩
   go_wp2_with fail
   refine (HI.out _).mono ?_
   rintro e w2 ⟨rfl, rfl⟩
   go_wp2
   go_ret
   exact ⟨rfl, hbx.out⟩
 rw [szv_yes c3] at HI
 have p3 : ¬ left - (n : Int) - (k : Int) - (m : Int) < 0 := by omega
 rw [szMv_yes (by omega)]
 go_enter Try.func26, Try.ntmps26
 go_wp2_with fail
 refine (HS.out _).mono ?_
 rintro e w1 ⟨rfl, hb⟩
 have BA1 := Lib.hid (BA0.out.ext hb)
 obtain ⟨d0, d1, d2, d3, d4, d5, d6⟩ := BA1.out.q7
 have la := BA1.out.lt
 have hbx := Lib.hid (ext_trans hbx.out hb)
 clear hb
 go_wp2_with fail
 refine (HK.out _).mono ?_
 rintro e w2 ⟨rfl, rfl⟩
 go_wp2_with fail
 refine (HI.out _).mono ?_
 rintro e w2 ⟨rfl, rfl⟩
 go_wp2
 go_ret
 exact ⟨rfl, hbx.out⟩
/-- a mind of its own comes back: its three rows lie apart -/
def OwnMnd (u lo : Int) (n : Nat) (l : List R2) (k : Nat) (cl : List Int) (m : Nat) (im : List Int) (be gu : Int) (w : World) (e : Ending) (w' : World) : Prop :=
 ∃ A c K kc I ic, e = .returned (mdV u lo A n c K k kc I m ic be gu) ∧ (Value.ownBlock (.slice K k kc) = none ∨ Value.ownBlock (.slice K k kc) ≠ Value.ownBlock (.slice I m ic)) ∧
  w'.ownsRow w.heap.size 155 2 (.slice A n c) n (rowsV2 l) ∧ w'.ownsRow w.heap.size 3 1 (.slice K k kc) k (intsV cl) ∧ w'.ownsRow w.heap.size 3 1 (.slice I m ic) m (intsV im) ∧ Below w.heap.size w w'
set_option maxRecDepth 100000 in
set_option maxHeartbeats 4000000 in
theorem toMind_any (u lo : Int) (A : Option Addr) (n c : Nat) (l : List R2) (K : Option Addr) (k kc : Nat) (cl : List Int) (I : Option Addr) (m ic : Nat) (im : List Int) (be gu : Int) (w : World) (hn : n ≤ 1048576) (hk : k ≤ 1048576) (hm : m ≤ 1048576) (h : Reads w w.heap.size 2 A n (rowsV2 l)) (hc : Reads w w.heap.size 1 K k (intsV cl)) (hi : Reads w w.heap.size 1 I m (intsV im)) :
 Calls Try.prog 28 #[mdV u lo A n c K k kc I m ic be gu] w (OwnMnd u lo n l k cl m im be gu w) := by
 have H := Lib.hid h
 have HC := Lib.hid hc
 have HI := Lib.hid hi
 have hbx := Lib.hid (ext_alloc (ext_alloc (ext_alloc (ext_refl w) (.cells (mdC u lo A n c K k kc I m ic be gu) 42)) (.cells #[.int .i64 0, .int .i64 0, .slice none 0 0, .slice none 0 0, .slice none 0 0, .int .i64 0, .int .i64 0] 47)) (.cells #[.int .i64 0, .int .i64 0, .slice none 0 0, .slice none 0 0, .slice none 0 0, .int .i64 0, .int .i64 0] 47))
 have BA0 := Lib.hid (((Blk.born w (mdC u lo A n c K k kc I m ic be gu) 42 (H := w.heap.size) rfl).al (.cells #[.int .i64 0, .int .i64 0, .slice none 0 0, .slice none 0 0, .slice none 0 0, .int .i64 0, .int .i64 0] 47)).al (.cells #[.int .i64 0, .int .i64 0, .slice none 0 0, .slice none 0 0, .slice none 0 0, .int .i64 0, .int .i64 0] 47))
 have BR0 := Lib.hid ((Blk.born (w.alloc (.cells (mdC u lo A n c K k kc I m ic be gu) 42)) #[.int .i64 0, .int .i64 0, .slice none 0 0, .slice none 0 0, .slice none 0 0, .int .i64 0, .int .i64 0] 47 (H := w.heap.size + 1) (by simp)).al (.cells #[.int .i64 0, .int .i64 0, .slice none 0 0, .slice none 0 0, .slice none 0 0, .int .i64 0, .int .i64 0] 47))
 have BO0 := Lib.hid (Blk.born ((w.alloc (.cells (mdC u lo A n c K k kc I m ic be gu) 42)).alloc (.cells #[.int .i64 0, .int .i64 0, .slice none 0 0, .slice none 0 0, .slice none 0 0, .int .i64 0, .int .i64 0] 47)) #[.int .i64 0, .int .i64 0, .slice none 0 0, .slice none 0 0, .slice none 0 0, .int .i64 0, .int .i64 0] 47 (H := w.heap.size + 1 + 1) (by simp))
 clear h hc hi
 go_enter Try.func28, Try.ntmps28
 go_wp2_with fail
 refine (toFrame_any u lo A n c l _ hn (rdx H.out hbx.out)).mono ?_
 rintro e w1 ⟨A1, c1, rfl, ho, hb⟩
 have s0 := hbx.out.size
 have OA := Lib.hid (own_base (base' := w.heap.size) ho s0)
 have BA1 := Lib.hid (BA0.out.ext hb)
 have BR1 := Lib.hid (BR0.out.ext hb)
 have BO1 := Lib.hid (BO0.out.ext hb)
 have HB1 := Lib.hid (ext_trans hbx.out hb)
 clear hb ho s0
 obtain ⟨d0, d1, d2, d3, d4, d5, d6⟩ := BA1.out.q7
 obtain ⟨x0, x1, x2, x3, x4, x5, x6⟩ := BO1.out.q7
 obtain ⟨z0, z1, z2, z3, z4, z5, z6⟩ := BO1.out.z7
 obtain ⟨r0, r1, r2, r3, r4, r5, r6⟩ := BR1.out.q7
 obtain ⟨y0, y1, y2, y3, y4, y5, y6⟩ := BR1.out.z7
 have la := BA1.out.lt
 have lo1 := BO1.out.lt
 have lr1 := BR1.out.lt
 go_wp2_with fail
 -- the frame is stored
 obtain ⟨W, hW⟩ : ∃ y : World, y = ((w1.setCell ⟨w.heap.size + 1 + 1, 0, none⟩ (.int .i64 u)).setCell ⟨w.heap.size + 1 + 1, 1, none⟩ (.int .i64 lo)).setCell ⟨w.heap.size + 1 + 1, 2, none⟩ (.slice A1 n c1) := ⟨_, rfl⟩
 have BA2 := Lib.hid (show Blk W w.heap.size 42 _ by rw [hW]; exact fill_far BA1.out (by omega))
 have BR2 := Lib.hid (show Blk W (w.heap.size + 1) 47 _ by rw [hW]; exact fill_far BR1.out (by omega))
 have BO2 := Lib.hid (show Blk W (w.heap.size + 1 + 1) 47 #[.int .i64 u, .int .i64 lo, .slice A1 n c1, .slice none 0 0, .slice none 0 0, .int .i64 0, .int .i64 0] by rw [hW]; exact ((BO1.out.set_ 0 _).set_ 1 _).set_ 2 _)
 have OA2 := Lib.hid (show W.ownsRow w.heap.size 155 2 (.slice A1 n c1) n (rowsV2 l) by rw [hW]; exact fill_own' OA.out (own_nbT OA.out BO1.out (by decide)))
 have HB2 := Lib.hid (show Below w.heap.size w W by rw [hW]; exact fill_below HB1.out (by omega))
 rw [← hW]
 clear hW d0 d1 d2 d3 d4 d5 d6 z0 z1 z2 z3 z4 z5 z6 y0 y1 y2 y3 y4 y5 y6 x0 x1 x2 x3 x4 x5 x6 r0 r1 r2 r3 r4 r5 r6 la lo1 lr1 OA BA1 BR1 BO1 HB1
 obtain ⟨d0, d1, d2, d3, d4, d5, d6⟩ := BA2.out.q7
 obtain ⟨x0, x1, x2, x3, x4, x5, x6⟩ := BO2.out.q7
 obtain ⟨z0, z1, z2, z3, z4, z5, z6⟩ := BO2.out.z7
 obtain ⟨r0, r1, r2, r3, r4, r5, r6⟩ := BR2.out.q7
 obtain ⟨y0, y1, y2, y3, y4, y5, y6⟩ := BR2.out.z7
 have la := BA2.out.lt
 have lo1 := BO2.out.lt
 have lr1 := BR2.out.lt
 refine (toIntS_any K k kc cl _ hk (rdx HC.out HB2.out)).mono ?_
 rintro e w3 ⟨K1, kc1, rfl, ho, hb⟩
 have s0 := HB2.out.size
 have OK3 := Lib.hid (own_base (base' := w.heap.size) ho s0)
 have OA3 := Lib.hid (own_ext OA2.out hb)
 have BA3 := Lib.hid (BA2.out.ext hb)
 have BR3 := Lib.hid (BR2.out.ext hb)
 have BO3 := Lib.hid (BO2.out.ext hb)
 have HB3 := Lib.hid (ext_trans HB2.out hb)
 clear hb ho s0 d0 d1 d2 d3 d4 d5 d6 z0 z1 z2 z3 z4 z5 z6 y0 y1 y2 y3 y4 y5 y6 x0 x1 x2 x3 x4 x5 x6 r0 r1 r2 r3 r4 r5 r6 la lo1 lr1 OA2 BA2 BR2 BO2 HB2
 obtain ⟨d0, d1, d2, d3, d4, d5, d6⟩ := BA3.out.q7
 obtain ⟨x0, x1, x2, x3, x4, x5, x6⟩ := BO3.out.q7
 obtain ⟨z0, z1, z2, z3, z4, z5, z6⟩ := BO3.out.z7
 obtain ⟨r0, r1, r2, r3, r4, r5, r6⟩ := BR3.out.q7
 obtain ⟨y0, y1, y2, y3, y4, y5, y6⟩ := BR3.out.z7
 have la := BA3.out.lt
 have lo1 := BO3.out.lt
 have lr1 := BR3.out.lt
 go_wp2_with fail
 obtain ⟨W, hW⟩ : ∃ y : World, y = w3.setCell ⟨w.heap.size + 1 + 1, 3, none⟩ (.slice K1 k kc1) := ⟨_, rfl⟩
 have BA4 := Lib.hid (show Blk W w.heap.size 42 _ by rw [hW]; exact BA3.out.setF (p := ⟨w.heap.size + 1 + 1, 3, none⟩) (by show w.heap.size + 1 + 1 ≠ w.heap.size; omega) _)
 have BR4 := Lib.hid (show Blk W (w.heap.size + 1) 47 _ by rw [hW]; exact BR3.out.setF (p := ⟨w.heap.size + 1 + 1, 3, none⟩) (by show w.heap.size + 1 + 1 ≠ w.heap.size + 1; omega) _)
 have BO4 := Lib.hid (show Blk W (w.heap.size + 1 + 1) 47 #[.int .i64 u, .int .i64 lo, .slice A1 n c1, .slice K1 k kc1, .slice none 0 0, .int .i64 0, .int .i64 0] by rw [hW]; exact BO3.out.set_ 3 _)
 have OA4 := Lib.hid (show W.ownsRow w.heap.size 155 2 (.slice A1 n c1) n (rowsV2 l) by rw [hW]; exact own_setF (p := ⟨w.heap.size + 1 + 1, 3, none⟩) OA3.out (own_nbT OA3.out BO3.out (by decide)) _)
 have OK4 := Lib.hid (show W.ownsRow w.heap.size 3 1 (.slice K1 k kc1) k (intsV cl) by rw [hW]; exact own_setF (p := ⟨w.heap.size + 1 + 1, 3, none⟩) OK3.out (own_nbT OK3.out BO3.out (by decide)) _)
 have HB4 := Lib.hid (show Below w.heap.size w W by rw [hW]; exact HB3.out.setCell (p := ⟨w.heap.size + 1 + 1, 3, none⟩) (by show w.heap.size ≤ w.heap.size + 1 + 1; omega) _)
 rw [← hW]
 clear hW d0 d1 d2 d3 d4 d5 d6 z0 z1 z2 z3 z4 z5 z6 y0 y1 y2 y3 y4 y5 y6 x0 x1 x2 x3 x4 x5 x6 r0 r1 r2 r3 r4 r5 r6 la lo1 lr1 OA3 OK3 BA3 BR3 BO3 HB3
 obtain ⟨d0, d1, d2, d3, d4, d5, d6⟩ := BA4.out.q7
 obtain ⟨x0, x1, x2, x3, x4, x5, x6⟩ := BO4.out.q7
 obtain ⟨z0, z1, z2, z3, z4, z5, z6⟩ := BO4.out.z7
 obtain ⟨r0, r1, r2, r3, r4, r5, r6⟩ := BR4.out.q7
 obtain ⟨y0, y1, y2, y3, y4, y5, y6⟩ := BR4.out.z7
 have la := BA4.out.lt
 have lo1 := BO4.out.lt
 have lr1 := BR4.out.lt
 refine (toIntS_any I m ic im _ hm (rdx HI.out HB4.out)).mono ?_
 rintro e w5 ⟨I1, ic1, rfl, ho, hb⟩
 have s0 := HB4.out.size
 have OI5 := Lib.hid (own_base (base' := w.heap.size) ho s0)
 have hne : Value.ownBlock (.slice K1 k kc1) = none ∨ Value.ownBlock (.slice K1 k kc1) ≠ Value.ownBlock (.slice I1 m ic1) := own_ne' OK4.out ho (Nat.le_refl _)
 have OA5 := Lib.hid (own_ext OA4.out hb)
 have OK5 := Lib.hid (own_ext OK4.out hb)
 have BA5 := Lib.hid (BA4.out.ext hb)
 have BR5 := Lib.hid (BR4.out.ext hb)
 have BO5 := Lib.hid (BO4.out.ext hb)
 have HB5 := Lib.hid (ext_trans HB4.out hb)
 have HNE := Lib.hid hne
 clear hb ho s0 hne d0 d1 d2 d3 d4 d5 d6 z0 z1 z2 z3 z4 z5 z6 y0 y1 y2 y3 y4 y5 y6 x0 x1 x2 x3 x4 x5 x6 r0 r1 r2 r3 r4 r5 r6 la lo1 lr1 OA4 OK4 BA4 BR4 BO4 HB4
 obtain ⟨d0, d1, d2, d3, d4, d5, d6⟩ := BA5.out.q7
 obtain ⟨x0, x1, x2, x3, x4, x5, x6⟩ := BO5.out.q7
 obtain ⟨z0, z1, z2, z3, z4, z5, z6⟩ := BO5.out.z7
 obtain ⟨r0, r1, r2, r3, r4, r5, r6⟩ := BR5.out.q7
 obtain ⟨y0, y1, y2, y3, y4, y5, y6⟩ := BR5.out.z7
 have la := BA5.out.lt
 have lo1 := BO5.out.lt
 have lr1 := BR5.out.lt
 go_wp2
 refine bodyPost_ret (v := mdV u lo A1 n c1 K1 k kc1 I1 m ic1 be gu) (by simp [results, Try.results28, go_sem, *]) rfl ?_
 have hs : w.heap.size ≤ w.heap.size + 1 + 1 := by omega
 have hs1 : w.heap.size ≤ w.heap.size + 1 := by omega
 refine ⟨A1, c1, K1, kc1, I1, ic1, rfl, HNE.out, ?_, ?_, ?_, ?_⟩
 · repeat (first | (with_reducible exact OA5.out) | (with_reducible refine own_setF ?_ (own_nbT OA5.out BO5.out (by decide)) _) | (with_reducible refine own_setF ?_ (own_nbT OA5.out BR5.out (by decide)) _))
 · repeat (first | (with_reducible exact OK5.out) | (with_reducible refine own_setF ?_ (own_nbT OK5.out BO5.out (by decide)) _) | (with_reducible refine own_setF ?_ (own_nbT OK5.out BR5.out (by decide)) _))
 · repeat (first | (with_reducible exact OI5.out) | (with_reducible refine own_setF ?_ (own_nbT OI5.out BO5.out (by decide)) _) | (with_reducible refine own_setF ?_ (own_nbT OI5.out BR5.out (by decide)) _))
 · repeat (first | (with_reducible exact HB5.out) | (with_reducible refine ext_set ?_ (by first | exact hs | exact hs1) _))
set_option maxHeartbeats 2000000 in
theorem eqMind_same (u lo : Int) (A A' : Option Addr) (n c c' : Nat) (l : List R2) (K K' : Option Addr) (k kc kc' : Nat) (cl : List Int) (I I' : Option Addr) (m ic ic' : Nat) (im : List Int) (be gu : Int) (w : World) (hn : n ≤ 1048576) (hk : k ≤ 1048576) (hm : m ≤ 1048576) (h : Reads w w.heap.size 2 A n (rowsV2 l)) (h' : Reads w w.heap.size 2 A' n (rowsV2 l)) (hc : Reads w w.heap.size 1 K k (intsV cl)) (hc' : Reads w w.heap.size 1 K' k (intsV cl)) (hi : Reads w w.heap.size 1 I m (intsV im)) (hi' : Reads w w.heap.size 1 I' m (intsV im)) :
 Calls Try.prog 31 #[mdV u lo A n c K k kc I m ic be gu, mdV u lo A' n c' K' k kc' I' m ic' be gu] w fun e w' => e = .returned (.bool true) ∧ Below w.heap.size w w' := by
 have HK := Lib.hid (fun (w : World) h h' => eqIntS_any K K' k k kc kc' cl cl w (by omega) (by omega) h h')
 have HI := Lib.hid (fun (w : World) h h' => eqIntS_any I I' m m ic ic' im im w (by omega) (by omega) h h')
 rw [decide_eq_true rfl] at HK HI
 have RA := Lib.hid h
 have RA' := Lib.hid h'
 have RC := Lib.hid hc
 have RC' := Lib.hid hc'
 have RI := Lib.hid hi
 have RI' := Lib.hid hi'
 have BA0 := Lib.hid ((Blk.born w (mdC u lo A n c K k kc I m ic be gu) 47 (H := w.heap.size) rfl).al (.cells (mdC u lo A' n c' K' k kc' I' m ic' be gu) 47))
 have BB0 := Lib.hid (Blk.born (w.alloc (.cells (mdC u lo A n c K k kc I m ic be gu) 47)) (mdC u lo A' n c' K' k kc' I' m ic' be gu) 47 (H := w.heap.size + 1) (by simp))
 have hbx := Lib.hid (ext_alloc (ext_alloc (ext_refl w) (.cells (mdC u lo A n c K k kc I m ic be gu) 47)) (.cells (mdC u lo A' n c' K' k kc' I' m ic' be gu) 47))
 clear h h' hc hc' hi hi'
 have hbe : (be != be) = false := by simp
 have hgu : (gu != gu) = false := by simp
 go_enter Try.func31, Try.ntmps31
 go_wp2_with fail
 refine (eqFrame_same u lo A A' n c c' l _ hn (rdx RA.out hbx.out) (rdx RA'.out hbx.out)).mono ?_
 rintro e w1 ⟨rfl, hb⟩
 have BA1 := Lib.hid (BA0.out.ext hb)
 have BB1 := Lib.hid (BB0.out.ext hb)
 have hbx := Lib.hid (ext_trans hbx.out hb)
 clear hb
 obtain ⟨a0, a1, a2, a3, a4, a5, a6⟩ := BA1.out.q7
 obtain ⟨b0, b1, b2, b3, b4, b5, b6⟩ := BB1.out.q7
 have la := BA1.out.lt
 have lb := BB1.out.lt
 go_wp2_with fail
 refine (HK.out _ (rdx RC.out hbx.out) (rdx RC'.out hbx.out)).mono ?_
 rintro e w2 ⟨rfl, hb⟩
 have BA2 := Lib.hid (BA1.out.ext hb)
 have BB2 := Lib.hid (BB1.out.ext hb)
 have hbx := Lib.hid (ext_trans hbx.out hb)
 clear hb a0 a1 a2 a3 a4 a5 a6 b0 b1 b2 b3 b4 b5 b6 la lb
 obtain ⟨a0, a1, a2, a3, a4, a5, a6⟩ := BA2.out.q7
 obtain ⟨b0, b1, b2, b3, b4, b5, b6⟩ := BB2.out.q7
 have la := BA2.out.lt
 have lb := BB2.out.lt
 go_wp2_with fail
 refine (HI.out _ (rdx RI.out hbx.out) (rdx RI'.out hbx.out)).mono ?_
 rintro e w3 ⟨rfl, hb⟩
 have BA3 := Lib.hid (BA2.out.ext hb)
 have BB3 := Lib.hid (BB2.out.ext hb)
 have hbx := Lib.hid (ext_trans hbx.out hb)
 clear hb a0 a1 a2 a3 a4 a5 a6 b0 b1 b2 b3 b4 b5 b6 la lb
 obtain ⟨a0, a1, a2, a3, a4, a5, a6⟩ := BA3.out.q7
 obtain ⟨b0, b1, b2, b3, b4, b5, b6⟩ := BB3.out.q7
 have la := BA3.out.lt
 have lb := BB3.out.lt
 go_wp2
 go_ret
 exact ⟨rfl, hbx.out⟩
/-- a mind is marked: three rows, one behind the other -/
def Marked (A : Option Addr) (n c : Nat) (K : Option Addr) (k kc : Nat) (I : Option Addr) (m ic : Nat) (bA bK bI : Nat) (ys zs : List Value) (w w' : World) : Prop :=
 ∃ wa wb, w.grownBy wa (Value.ownBlock (.slice A n c)) ∧ wa.grownBy wb (Value.ownBlock (.slice K k kc)) ∧ wb.grownBy w' (Value.ownBlock (.slice I m ic)) ∧
  wa.ownsRow bK 3 1 (.slice K k kc) k ys ∧ wb.ownsRow bI 3 1 (.slice I m ic) m zs ∧
  w'.ownsRow bA 155 2 (.slice A n c) n (marks 1 (n * 2)) ∧ w'.ownsRow bK 3 1 (.slice K k kc) k (marks (1 + (n : Int) * 2) k) ∧ w'.ownsRow bI 3 1 (.slice I m ic) m (marks (1 + (n : Int) * 2 + k) m)
set_option maxHeartbeats 2000000 in
theorem markMind_any (u lo : Int) (A : Option Addr) (n c : Nat) (K : Option Addr) (k kc : Nat) (I : Option Addr) (m ic : Nat) (be gu : Int) (bA bK bI : Nat) (xs ys zs : List Value) (w : World) (hn : n ≤ 1048576) (hk : k ≤ 1048576) (hm : m ≤ 1048576) (ha : w.ownsRow bA 155 2 (.slice A n c) n xs) (hc : w.ownsRow bK 3 1 (.slice K k kc) k ys) (hi : w.ownsRow bI 3 1 (.slice I m ic) m zs) (hne : Value.ownBlock (.slice K k kc) = none ∨ Value.ownBlock (.slice K k kc) ≠ Value.ownBlock (.slice I m ic)) :
 Calls Try.prog 32 #[mdV u lo A n c K k kc I m ic be gu, .int .i64 1] w fun e w' => e = .returned (.int .i64 (1 + (n : Int) * 2 + k + m)) ∧ Marked A n c K k kc I m ic bA bK bI ys zs w w' := by
 have OA := Lib.hid (own_ext ha (ext_alloc (ext_refl _) (.cells (mdC u lo A n c K k kc I m ic be gu) 47)))
 have OC := Lib.hid (own_ext hc (ext_alloc (ext_refl _) (.cells (mdC u lo A n c K k kc I m ic be gu) 47)))
 have OI := Lib.hid (own_ext hi (ext_alloc (ext_refl _) (.cells (mdC u lo A n c K k kc I m ic be gu) 47)))
 have BA0 := Lib.hid (Blk.born w (mdC u lo A n c K k kc I m ic be gu) 47 (H := w.heap.size) rfl)
 have HNE := Lib.hid hne
 have HNE' := Lib.hid (show Value.ownBlock (.slice I m ic) = none ∨ Value.ownBlock (.slice I m ic) ≠ Value.ownBlock (.slice K k kc) by rcases hne with h | h; (cases hI : Value.ownBlock (.slice I m ic) with | none => exact .inl rfl | some b => right; rw [h]; simp); exact .inr fun e => h e.symm)
 clear ha hc hi hne
 go_enter Try.func32, Try.ntmps32
 go_wp2_with fail
 refine (markFrame_any u lo A n c bA xs 1 _ (by omega) (by omega) (by omega) OA.out).mono ?_
 rintro e w1 ⟨rfl, ho, hg⟩
 have OA1 := Lib.hid ho
 have OC1 := Lib.hid (OC.out.kept hg (own_neT OC.out OA.out (by decide)))
 have OI1 := Lib.hid (OI.out.kept hg (own_neT OI.out OA.out (by decide)))
 have BA1 := Lib.hid (Blk.grownF BA0.out hg (own_nbT OA.out BA0.out (by decide)))
 have G1 := Lib.hid (gr_allocF hg)
 clear ho hg OA OC OI BA0
 obtain ⟨d0, d1, d2, d3, d4, d5, d6⟩ := BA1.out.q7
 have la := BA1.out.lt
 go_wp2_with fail
 refine (markIntS_any K k kc bK ys (1 + (n : Int) * 2) _ (by omega) (by omega) (by omega) OC1.out).mono ?_
 rintro e w2 ⟨rfl, ho, hg⟩
 have OC2 := Lib.hid ho
 have OA2 := Lib.hid (OA1.out.kept hg (own_neT OA1.out OC1.out (by decide)))
 have OI2 := Lib.hid (OI1.out.kept hg HNE'.out)
 have BA2 := Lib.hid (Blk.grownF BA1.out hg (own_nbT OC1.out BA1.out (by decide)))
 have G2 := Lib.hid hg
 clear ho hg OA1 OI1 BA1 d0 d1 d2 d3 d4 d5 d6 la
 obtain ⟨d0, d1, d2, d3, d4, d5, d6⟩ := BA2.out.q7
 have la := BA2.out.lt
 go_wp2_with fail
 refine (markIntS_any I m ic bI zs (1 + (n : Int) * 2 + k) _ (by omega) (by omega) (by omega) OI2.out).mono ?_
 rintro e w3 ⟨rfl, ho, hg⟩
 have OI3 := Lib.hid ho
 have OA3 := Lib.hid (OA2.out.kept hg (own_neT OA2.out OI2.out (by decide)))
 have OC3 := Lib.hid (OC2.out.kept hg HNE.out)
 have G3 := Lib.hid hg
 clear ho hg
 go_wp2
 go_ret
 exact ⟨rfl, w1, w2, G1.out, G2.out, G3.out, OC1.out, OI2.out, OA3.out, OC3.out, OI3.out⟩
set_option maxHeartbeats 2000000 in
theorem heldMind_any (u lo : Int) (A : Option Addr) (n c : Nat) (K : Option Addr) (k kc : Nat) (I : Option Addr) (m ic : Nat) (be gu : Int) (w : World) (hn : n ≤ 1048576) (hk : k ≤ 1048576) (hm : m ≤ 1048576) (ha : Reads w w.heap.size 2 A n (marks 1 (n * 2))) (hc : Reads w w.heap.size 1 K k (marks (1 + (n : Int) * 2) k)) (hi : Reads w w.heap.size 1 I m (marks (1 + (n : Int) * 2 + k) m)) :
 Calls Try.prog 33 #[mdV u lo A n c K k kc I m ic be gu, .int .i64 1] w fun e w' => e = .returned (.int .i64 (1 + (n : Int) * 2 + k + m)) ∧ Below w.heap.size w w' := by
 have RA := Lib.hid ha
 have RC := Lib.hid hc
 have RI := Lib.hid hi
 have BA0 := Lib.hid (Blk.born w (mdC u lo A n c K k kc I m ic be gu) 47 (H := w.heap.size) rfl)
 have hbx := Lib.hid (ext_alloc (ext_refl w) (.cells (mdC u lo A n c K k kc I m ic be gu) 47))
 have p1 : ¬ 1 + (n : Int) * 2 < 0 := by omega
 have p2 : ¬ 1 + (n : Int) * 2 + k < 0 := by omega
 have p3 : ¬ 1 + (n : Int) * 2 + k + m < 0 := by omega
 clear ha hc hi
 go_enter Try.func33, Try.ntmps33
 go_wp2_with fail
 refine (heldFrame_any u lo A n c 1 _ (by omega) (by omega) (by omega) (rdx RA.out hbx.out)).mono ?_
 rintro e w1 ⟨rfl, hb⟩
 have BA1 := Lib.hid (BA0.out.ext hb)
 have hbx := Lib.hid (ext_trans hbx.out hb)
 clear hb
 obtain ⟨d0, d1, d2, d3, d4, d5, d6⟩ := BA1.out.q7
 have la := BA1.out.lt
 go_wp2_with fail
 refine (heldIntS_any K k kc (1 + (n : Int) * 2) _ (by omega) (by omega) (by omega) (rdx RC.out hbx.out)).mono ?_
 rintro e w2 ⟨rfl, rfl⟩
 go_wp2_with fail
 refine (heldIntS_any I m ic (1 + (n : Int) * 2 + k) _ (by omega) (by omega) (by omega) (rdx RI.out hbx.out)).mono ?_
 rintro e w2 ⟨rfl, rfl⟩
 go_wp2
 go_ret
 exact ⟨rfl, hbx.out⟩
end Go.Proofs.Ytlkfffohjeoooaa
