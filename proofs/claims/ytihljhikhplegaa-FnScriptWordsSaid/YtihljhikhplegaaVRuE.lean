/- Scripts carried out: the program's. -/
import Derived.Test.YtihljhikhplegaaVRuD
namespace Go.Proofs.Ytihljhikhplegaa
open Go.RowKit
set_option linter.unusedVariables false
set_option linter.unusedSimpArgs false
theorem Bd.ms {n m : Nat} {p : WS × Nat} (h : Bd n m p) (hn : n ≤ 8) (hm : m ≤ 1000) : p.1.ms.length ≤ 128000 ∧ 0 ≤ p.1.ask ∧ p.1.ask ≤ 8000 := by
 obtain ⟨_, h2, h3, h4⟩ := h
 have e1 : 16 * n * m ≤ 16 * 8 * 1000 := Nat.mul_le_mul (by omega) hm
 have e2 : n * m ≤ 8 * 1000 := Nat.mul_le_mul hn hm
 have h4' : p.1.ask ≤ ((n * m : Nat) : Int) := by push_cast; exact h4
 exact ⟨by omega, h3, by omega⟩
theorem Bd.it {n m : Nat} {x : RW} {p : WS × Nat} (hx : okW x) (hb : Bd n m p) : ∀ (k : Nat) (q : WS × Nat), itO n x k p = some q → Bd n (m + k) q := by
 intro k
 induction k with
 | zero => intro q h; injection h with h; subst h; exact hb
 | succ k ih =>
   intro q h
   rw [itO] at h
   rcases hq : itO n x k p with _ | z
   · rw [hq] at h; cases h
   · rw [hq] at h
     exact (ih z hq).step hx h
theorem Bd.more {n m m' : Nat} {p : WS × Nat} (h : Bd n m p) (hm : m ≤ m') : Bd n m' p := by
 obtain ⟨h1, h2, h3, h4⟩ := h
 have e1 : 16 * n * m ≤ 16 * n * m' := Nat.mul_le_mul_left _ hm
 have e2 : n * m ≤ n * m' := Nat.mul_le_mul_left _ hm
 refine ⟨h1, by omega, h3, ?_⟩
 have h4' : p.1.ask ≤ ((n * m : Nat) : Int) := by push_cast; exact h4
 have : p.1.ask ≤ ((n * m' : Nat) : Int) := by omega
 push_cast at this
 exact this
set_option maxRecDepth 100000 in
set_option maxHeartbeats 2000000 in
theorem carry_any (B g P : Nat) (u lo : Int) (n r m : Nat) (s : WS) (x : RW) (w : World) (hu : 1 ≤ u ∧ u ≤ 2) (hlo : 4 ≤ lo ∧ lo ≤ 5) (hW : Wk w B g u lo s) (hP : Blk w P 64 (plV g r)) (hPB : B ≤ P) (hB : B ≤ w.heap.size) (hb : Bd n m (s, r)) (hx : okW x) (hn8 : n ≤ 8) (hm : m ≤ 900) :
 Calls Try.prog 66 #[.pointer (some ⟨P, 0, none⟩), x.val] w (RetOn B g P u lo (wdO n x (s, r)) w) := by
 have HX := Lib.hid hx
 have HBD := Lib.hid hb
 obtain ⟨O, hO⟩ : ∃ O, wdO n x (s, r) = O := ⟨_, rfl⟩
 rw [hO]
 have HO := Lib.hid hO
 have ht9 := hx.1.2
 obtain ⟨xt, xc, xd⟩ := x
 dsimp only at ht9
 have BW0 := Lib.hid (Blk.born w #[.int .i64 (xt : Int), .int .u8 (xc.toNat : Int), .int .i64 (xd : Int)] 92 (H := w.heap.size) rfl)
 have hb0 := Lib.hid (ext_alloc (ext_refl w) (.cells #[.int .i64 (xt : Int), .int .u8 (xc.toNat : Int), .int .i64 (xd : Int)] 92))
 have W0 := Lib.hid (hW.ext hb0.out)
 have P0 := Lib.hid (hP.ext hb0.out)
 clear hW hP hb hx hO
 go_enter Try.func66, Try.ntmps66
 go_wp2
 go_loopw [5] (fun i wr => ∃ (k : Nat) (q : WS × Nat), k ≤ xt ∧ i = .int .i64 k ∧ Hid (itO n ⟨xt, xc, xd⟩ k (s, r) = some q) ∧ Hid (Blk wr P 64 (plV g q.2)) ∧ Hid (Wk wr B g u lo q.1) ∧ Hid (Blk wr w.heap.size 92 #[.int .i64 (xt : Int), .int .u8 (xc.toNat : Int), .int .i64 (xd : Int)]) ∧ Hid (Below B w wr) ∧ Hid (KeepP w wr)) (fun i _ => xt - (intOf i).toNat)
 case atStart => exact ⟨0, (s, r), Nat.zero_le _, rfl, Lib.hid rfl, P0, W0, BW0, Lib.hid (hb0.out.mono hB), Lib.hid (KeepP.of_ext hb0.out)⟩
 case round =>
  obtain ⟨k, q, hk, rfl, hit, hPr, hWr, hBr, hbr, hkr⟩ := hrel
  obtain ⟨m0, m1, m2⟩ := hBr.out.q3
  have hwl := hBr.out.lt
  by_cases hlt : k < xt
  · have hbd := Lib.hid (HBD.out.it HX.out k q hit.out)
    obtain ⟨hm1, hm2, hm3⟩ := hbd.out.ms hn8 (by omega)
    obtain ⟨qs, qr⟩ := q
    dsimp only at hm1 hm2 hm3 hPr hWr
    have hBr' : B ≤ wr.heap.size := by have := hbr.out.size; omega
    have HON := Lib.hid (once_any B g P u lo n qr qs ⟨xt, xc, xd⟩ wr hu hlo hWr.out hPr.out hPB hBr' hbd.out.1 HX.out hn8 (by omega) hm2 (by omega))
    have hstep := Lib.hid (show itO n ⟨xt, xc, xd⟩ (k + 1) (s, r) = stO n ⟨xt, xc, xd⟩ (qs, qr) by rw [itO, hit.out]; rfl)
    rcases ho : stO n ⟨xt, xc, xd⟩ (qs, qr) with _ | q'
    · rw [ho] at HON
      have hnone := Lib.hid (show O = none by rw [← HO.out]; exact itO_none (j := k + 1) (by show k + 1 ≤ xt; omega) (by rw [hstep.out, ho]))
      clear ho hm1 hm2 hm3
      go_wp2_with fail
      refine HON.out.mono ?_
      rintro e w1 ⟨rfl, _, hb1, hk1⟩
      rw [show (none : Option (WS × Nat)).isSome = false from rfl]
      have hb1 := Lib.hid hb1
      have hk1 := Lib.hid hk1
      go_wp2
      go_ret
      refine ⟨by rw [hnone.out]; rfl, fun q hq => ?_, hbr.out.trans hb1.out, hkr.out.trans hk1.out⟩
      rw [hnone.out] at hq
      cases hq
    · rw [ho] at HON
      have hit2 := Lib.hid (show itO n ⟨xt, xc, xd⟩ (k + 1) (s, r) = some q' by rw [hstep.out, ho])
      clear ho hm1 hm2 hm3
      go_wp2_with fail
      refine HON.out.mono ?_
      rintro e w1 ⟨rfl, hq1, hb1, hk1⟩
      rw [show (some q').isSome = true from rfl]
      obtain ⟨hP1, hW1⟩ := hq1 q' rfl
      have hb1 := Lib.hid hb1
      have hk1 := Lib.hid hk1
      have hP1 := Lib.hid hP1
      have hW1 := Lib.hid hW1
      clear hq1
      go_wp2
      go_roundw
      case rel => exact ⟨k + 1, q', by omega, by go_num, hit2, hP1, hW1, Lib.hid (hk1.out.2 _ _ _ hBr.out (by decide) (by decide) (by decide) (by decide)), Lib.hid (hbr.out.trans hb1.out), Lib.hid (hkr.out.trans hk1.out)⟩
      case measure => simp [intOf]; omega
  · obtain rfl : k = xt := by omega
    have hsome := Lib.hid (show O = some q by rw [← HO.out]; exact hit.out)
    go_wp2
    go_ret
    refine ⟨by rw [hsome.out]; rfl, fun q' hq => ?_, hbr.out, hkr.out⟩
    rw [hsome.out] at hq
    injection hq with hq
    subst hq
    exact ⟨hPr.out, hWr.out⟩
/-- a script on a frame: what comes back -/
def st0 (l : List R2) : WS × Nat := (⟨dsOf l, [], 0⟩, l.length - 1)
def runB (u lo : Int) (l : List R2) (s : ByteArray) : Bool := scrB s && goodB u lo l
def runQ (l : List R2) (s : ByteArray) : Option (WS × Nat) := runO l.length (rulesL s) (st0 l)
def runD (l : List R2) (s : ByteArray) : Nat := doneN l.length (rulesL s) (st0 l)
theorem okW_rules {s : ByteArray} (h : scrB s = true) {k : Nat} {x : RW} (hx : (rulesL s)[k]? = some x) : okW x := by
 unfold rulesL at hx
 rw [List.getElem?_map] at hx
 rcases hl : (wordsL s)[k]? with _ | y
 · rw [hl] at hx; cases hx
 · rw [hl] at hx
   injection hx with hx
   subst hx
   unfold scrB at h
   simp only [Bool.and_eq_true, List.all_eq_true] at h
   have := h.2 y (List.mem_of_getElem? hl)
   rcases hw : wordO y with _ | z
   · rw [hw] at this; cases this
   · unfold wd
     rw [hw]
     exact wordO_ok hw
theorem st0_Bd {u lo : Int} {l : List R2} (h : goodB u lo l = true) : Bd l.length 0 (st0 l) := by
 have hf := good_fr h
 have hn := (frB_head hf).2.2
 refine ⟨⟨dsOf_WF hf (good_std h), dsOf_len l, by show l.length - 1 < l.length; omega⟩, by simp [st0], by simp [st0], by simp [st0]⟩
/-- what playing leaves -/
def RetPl (u lo : Int) (l : List R2) (s : ByteArray) (w : World) (e : Ending) (w' : World) : Prop :=
 ∃ P, e = .returned (.tuple #[.pointer (some ⟨P, 0, none⟩), .int .i64 (runD l s : Int), .int .i64 ((rulesL s).length : Int), .bool true]) ∧
  (∀ q, runQ l s = some q → ∃ g, Blk w' P 64 (plV g q.2) ∧ Wk w' w.heap.size g u lo q.1) ∧ Below w.heap.size w w'
set_option maxRecDepth 100000 in
set_option maxHeartbeats 2000000 in
theorem play_no (u lo : Int) (A : Option Addr) (n c : Nat) (l : List R2) (s : ByteArray) (w : World) (hs : s.size ≤ 16777216) (hn : n ≤ 1048576) (h : Reads w w.heap.size 2 A n (rowsV2 l)) (hg : runB u lo l s = false) :
 Calls Try.prog 36 #[.string s, frV u lo A n c] w (RetV (.tuple #[.pointer none, .int .i64 0, .int .i64 0, .bool false]) w) := by
 have H := Lib.hid h
 have BF0 := Lib.hid (Blk.born w #[.int .i64 u, .int .i64 lo, .slice A n c] 26 (H := w.heap.size) rfl)
 have hbx := Lib.hid (ext_alloc (ext_refl w) (.cells #[.int .i64 u, .int .i64 lo, .slice A n c] 26))
 have HR := Lib.hid (fun w => rulesOf_any s w hs)
 clear h
 cases hsc : scrB s
 · rw [hsc] at HR
   clear hg
   have HSC := Lib.hid hsc
   clear hsc
   cases hgd : goodB u lo l
   · have HG := Lib.hid hgd
     clear hgd
     go_enter Try.func36, Try.ntmps36
     go_wp2_with fail
     refine (HR.out _).mono ?_
     rintro e w1 ⟨A1, c1, rfl, ho1, hb1⟩
     have hb2 := Lib.hid (ext_trans hbx.out hb1)
     obtain ⟨f0, f1, f2⟩ := (BF0.out.ext hb1).q3
     clear ho1 hb1
     go_wp2_with fail
     refine (begin_no u lo A n c l _ hn (rdx H.out hb2.out) HG.out).mono ?_
     rintro e w2 ⟨rfl, hb3⟩
     go_wp2
     refine bodyPost_ret (v := .tuple #[.pointer none, .int .i64 0, .int .i64 0, .bool false]) (by simp [results, Try.results36, go_sem, *]) rfl ⟨rfl, ext_trans hb2.out hb3⟩
   · have HG := Lib.hid hgd
     clear hgd
     go_enter Try.func36, Try.ntmps36
     go_wp2_with fail
     refine (HR.out _).mono ?_
     rintro e w1 ⟨A1, c1, rfl, ho1, hb1⟩
     have hb2 := Lib.hid (ext_trans hbx.out hb1)
     obtain ⟨f0, f1, f2⟩ := (BF0.out.ext hb1).q3
     clear ho1 hb1
     go_wp2_with fail
     refine (begin_yes u lo A n c l _ hn (rdx H.out hb2.out) HG.out).mono ?_
     rintro e w2 ⟨g, rfl, hW, hb3⟩
     clear hW
     go_wp2
     refine bodyPost_ret (v := .tuple #[.pointer none, .int .i64 0, .int .i64 0, .bool false]) (by simp [results, Try.results36, go_sem, *]) rfl ⟨rfl, ext_trans hb2.out hb3⟩
 · have hgd : goodB u lo l = false := by unfold runB at hg; rw [hsc] at hg; simpa using hg
   rw [hsc] at HR
   have HG := Lib.hid hgd
   clear hgd hg hsc
   go_enter Try.func36, Try.ntmps36
   go_wp2_with fail
   refine (HR.out _).mono ?_
   rintro e w1 ⟨A1, c1, rfl, ho1, hb1⟩
   have hb2 := Lib.hid (ext_trans hbx.out hb1)
   obtain ⟨f0, f1, f2⟩ := (BF0.out.ext hb1).q3
   clear ho1 hb1
   go_wp2_with fail
   refine (begin_no u lo A n c l _ hn (rdx H.out hb2.out) HG.out).mono ?_
   rintro e w2 ⟨rfl, hb3⟩
   go_wp2
   refine bodyPost_ret (v := .tuple #[.pointer none, .int .i64 0, .int .i64 0, .bool false]) (by simp [results, Try.results36, go_sem, *]) rfl ⟨rfl, ext_trans hb2.out hb3⟩
set_option maxRecDepth 100000 in
set_option maxHeartbeats 4000000 in
theorem play_yes (u lo : Int) (A : Option Addr) (n c : Nat) (l : List R2) (s : ByteArray) (w : World) (hs : s.size ≤ 16777216) (hn : n ≤ 1048576) (h : Reads w w.heap.size 2 A n (rowsV2 l)) (hg : runB u lo l s = true) :
 Calls Try.prog 36 #[.string s, frV u lo A n c] w (RetPl u lo l s w) := by
 have hl := rows_len2 h
 have H := Lib.hid h
 have BF0 := Lib.hid (Blk.born w #[.int .i64 u, .int .i64 lo, .slice A n c] 26 (H := w.heap.size) rfl)
 have hbx := Lib.hid (ext_alloc (ext_refl w) (.cells #[.int .i64 u, .int .i64 lo, .slice A n c] 26))
 unfold runB at hg
 simp only [Bool.and_eq_true] at hg
 obtain ⟨hsc, hgd⟩ := hg
 have hf := good_fr hgd
 obtain ⟨hu, hlo, hn1, hn8⟩ := frB_head hf
 have HB0 := Lib.hid (st0_Bd hgd)
 have HOKW := Lib.hid (fun k x => @okW_rules s hsc k x)
 have HR := Lib.hid (fun w => rulesOf_any s w hs)
 rw [show scrL s = rulesL s by unfold scrL; rw [if_pos hsc], hsc] at HR
 have hwl : (rulesL s).length ≤ 81 := by
  rw [rulesL_len]
  have := wordsL_len s
  unfold scrB at hsc
  simp only [Bool.and_eq_true, decide_eq_true_eq] at hsc
  omega
 obtain ⟨X, hX⟩ : ∃ X, rulesL s = X := ⟨_, rfl⟩
 have HQ := Lib.hid (show runQ l s = runO n X (st0 l) by unfold runQ; rw [hX, hl])
 have HD := Lib.hid (show runD l s = doneN n X (st0 l) by unfold runD; rw [hX, hl])
 rw [hX] at HOKW HR hwl
 rw [hl] at HB0 hn1 hn8
 have HX := Lib.hid hX
 have HG := Lib.hid hgd
 have HST := Lib.hid (show st0 l = (⟨dsOf l, [], 0⟩, n - 1) by unfold st0; rw [hl])
 have hz : ((n - 1 : Nat) : Int) = (n : Int) - 1 := by omega
 have HZ := Lib.hid hz
 clear h hsc hgd hf hl hX hz
 go_enter Try.func36, Try.ntmps36
 go_wp2_with fail
 refine (HR.out _).mono ?_
 rintro e w1 ⟨A1, c1, rfl, ho1, hb1⟩
 have hb2 := Lib.hid (ext_trans hbx.out hb1)
 have BF1 := Lib.hid (BF0.out.ext hb1)
 have ho1 := Lib.hid (own_base (base' := w.heap.size) ho1 hbx.out.size)
 obtain ⟨f0, f1, f2⟩ := BF1.out.q3
 clear hb1
 go_wp2_with fail
 refine (begin_yes u lo A n c l _ hn (rdx H.out hb2.out) HG.out).mono ?_
 rintro e w2 ⟨g, rfl, hW, hb3⟩
 have hW2 := Lib.hid (hW.mono (B' := w.heap.size) hb2.out.size)
 have ho2 := Lib.hid (own_ext ho1.out hb3)
 have hb4 := Lib.hid (ext_trans hb2.out hb3)
 clear f0 f1 f2
 obtain ⟨f0, f1, f2⟩ := (BF1.out.ext hb3).q3
 clear hW hb3
 go_upto_region 6 with fail
 obtain ⟨P, hP⟩ : ∃ P, P = w2.heap.size := ⟨_, rfl⟩
 obtain ⟨w3, hw3⟩ : ∃ y : World, y = w2.alloc (.cells #[.pointer (some ⟨g, 0, none⟩), .int .i64 ((n : Int) - 1)] 64) := ⟨_, rfl⟩
 have BP3 := Lib.hid (show Blk w3 P 64 (plV g (n - 1)) by unfold plV; rw [HZ.out, hw3]; exact Blk.born _ _ _ hP)
 have hW3 := Lib.hid (show Wk w3 w.heap.size g u lo (st0 l).1 by rw [HST.out, hw3]; exact hW2.out.ext (ext_alloc (ext_refl _) _))
 have ho3 := Lib.hid (show w3.ownsRow w.heap.size 92 3 (.slice A1 X.length c1) X.length (rwV X) by rw [hw3]; exact ho2.out.alloc _)
 have hb5 := Lib.hid (show Below w.heap.size w w3 by rw [hw3]; exact ext_alloc hb4.out _)
 have hPB : w.heap.size ≤ P := by have := hb4.out.size; omega
 rw [← hP, ← hw3]
 clear hP hw3 f0 f1 f2
 go_wp2
 go_loopw [40] (fun i wr => ∃ (k : Nat) (q : WS × Nat), k ≤ X.length ∧ i = .int .i64 k ∧ Hid (runO n (X.take k) (st0 l) = some q) ∧ Hid (Bd n (9 * k) q) ∧ Hid (Blk wr P 64 (plV g q.2)) ∧ Hid (Wk wr w.heap.size g u lo q.1) ∧ Hid (wr.ownsRow w.heap.size 92 3 (.slice A1 X.length c1) X.length (rwV X)) ∧ Hid (Below w.heap.size w wr)) (fun i _ => X.length - (intOf i).toNat)
 case atStart => exact ⟨0, st0 l, Nat.zero_le _, rfl, Lib.hid rfl, HB0, by rw [HST.out]; exact BP3, hW3, ho3, hb5⟩
 case round =>
  obtain ⟨k, q, hk, rfl, hrun, hbd, hPr, hWr, hor, hbr⟩ := hrel
  by_cases hlt : k < X.length
  · obtain ⟨x, hx⟩ := list_split (l := X) (k := k) hlt
    have hxo := Lib.hid (HOKW.out k x hx)
    obtain ⟨b, o, hA, hbb, c0, c1', c2⟩ := rw_at (Reads.of_own hor.out) hx
    subst hA
    obtain ⟨qs, qr⟩ := q
    have hBr' : w.heap.size ≤ (wr.alloc (.cells #[.int .i64 (x.times : Int), .int .u8 (x.what.toNat : Int), .int .i64 (x.digit : Int)] 92)).heap.size := (ext_alloc hbr.out _).size
    have HON := Lib.hid (carry_any w.heap.size g P u lo n qr (9 * k) qs x (wr.alloc (.cells #[.int .i64 (x.times : Int), .int .u8 (x.what.toNat : Int), .int .i64 (x.digit : Int)] 92)) hu hlo (hWr.out.ext (ext_alloc (ext_refl _) _)) (hPr.out.al _) hPB hBr' hbd.out hxo.out hn8 (by omega))
    have hstep := Lib.hid (runO_take hrun.out hx)
    rcases ho : wdO n x (qs, qr) with _ | q'
    · rw [ho] at HON
      have hnone := Lib.hid (done_at hrun.out hx ho)
      clear ho hx
      go_wp2_with fail
      refine HON.out.mono ?_
      rintro e w4 ⟨rfl, _, hb6, hk6⟩
      rw [show (none : Option (WS × Nat)).isSome = false from rfl]
      have hb6 := Lib.hid ((ext_alloc hbr.out _).trans hb6)
      clear hk6
      go_wp2
      refine bodyPost_ret (v := .tuple #[.pointer (some ⟨P, 0, none⟩), .int .i64 (k : Int), .int .i64 (X.length : Int), .bool true]) (by simp [results, Try.results36, go_sem, *]) rfl ?_
      refine ⟨P, by rw [HD.out, hnone.out.1, HX.out], fun q hq => ?_, hb6.out⟩
      rw [HQ.out, hnone.out.2] at hq
      cases hq
    · rw [ho] at HON
      have hrun2 := Lib.hid (show runO n (X.take (k + 1)) (st0 l) = some q' by rw [hstep.out, ho])
      have hbd2 := Lib.hid (show Bd n (9 * (k + 1)) q' from (hbd.out.it hxo.out _ _ ho).more (by have := hxo.out.1.2; omega))
      clear ho hx
      go_wp2_with fail
      refine HON.out.mono ?_
      rintro e w4 ⟨rfl, hq1, hb6, hk6⟩
      rw [show (some q').isSome = true from rfl]
      obtain ⟨hP1, hW1⟩ := hq1 q' rfl
      have hb6 := Lib.hid ((ext_alloc hbr.out _).trans hb6)
      have ho6 := Lib.hid (hk6.own (hor.out.alloc _) (by decide) (by decide) (by decide) (by decide))
      have hP1 := Lib.hid hP1
      have hW1 := Lib.hid hW1
      clear hq1 hk6
      go_wp2
      go_roundw
      case rel => exact ⟨k + 1, q', by omega, by go_num, hrun2, hbd2, hP1, hW1, ho6, hb6⟩
      case measure => simp [intOf]; omega
  · obtain rfl : k = X.length := by omega
    have hsome := Lib.hid (show runO n X (st0 l) = some q by have := hrun.out; rwa [List.take_of_length_le (Nat.le_refl _)] at this)
    go_wp2
    refine bodyPost_ret (v := .tuple #[.pointer (some ⟨P, 0, none⟩), .int .i64 (X.length : Int), .int .i64 (X.length : Int), .bool true]) (by simp [results, Try.results36, go_sem, *]) rfl ?_
    refine ⟨P, by rw [HD.out, done_all hsome.out, HX.out], fun q' hq => ?_, hbr.out⟩
    rw [HQ.out, hsome.out] at hq
    injection hq with hq
    subst hq
    exact ⟨g, hPr.out, hWr.out⟩
end Go.Proofs.Ytihljhikhplegaa
