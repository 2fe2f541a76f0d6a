/- TimesCarries: both. -/
import Derived.Test.YtfechhacmkajdaaVTmB
import Derived.Test.YtfechhacmkajdaaVM4
import Derived.Test.YtfechhacmkajdaaVCaA
import Derived.Test.YtfechhacmkajdaaVM6
import Derived.Test.YtfechhacmkajdaaVFdD
import Derived.Test.YtfechhacmkajdaaVM3
namespace Go.Proofs.Ytfechhacmkajdaa
open Go.RowKit
set_option linter.unusedVariables false
set_option linter.unusedSimpArgs false
def tcB (a b : Int) : Bool := facB a b
def tcV (a b : Int) : Int := if tcB a b = true then tcA (ptsF a b) (ptsF a b).length else 0
theorem tcL8 (ps : List R3) : tcL ps 0 = [⟨0, 0⟩, ⟨0, 0⟩, ⟨0, 0⟩, ⟨0, 0⟩, ⟨0, 0⟩, ⟨0, 0⟩, ⟨0, 0⟩, ⟨0, 0⟩] := by rfl
theorem tcS_ask : ∀ (r : Nat) (d : Int) (s : WS), s.ask ≤ (addS r d s).ask ∧ (addS r d s).ask ≤ s.ask + r := by
 intro r
 induction r with
 | zero => intro d s; exact ⟨Int.le_refl _, by show s.ask ≤ s.ask + 0; omega⟩
 | succ r ih =>
   intro d s
   by_cases h0 : 0 < d
   · rw [addS_pos s h0]
     have h := ih ((s.ds.getD r 0 + d) / 10) ⟨s.ds.set r ((s.ds.getD r 0 + d) % 10), s.ms ++ turnM r (s.ds.getD r 0) ((s.ds.getD r 0 + d) % 10), s.ask + if 0 < (s.ds.getD r 0 + d) / 10 then 1 else 0⟩
     obtain ⟨x, hx⟩ : ∃ o9 : Int, (if 0 < (s.ds.getD r 0 + d) / 10 then (1 : Int) else 0) = o9 := ⟨_, rfl⟩
     have hxb : 0 ≤ x ∧ x ≤ 1 := by split at hx <;> omega
     rw [hx] at h ⊢
     dsimp only at h
     omega
   · rw [addS_none s h0]
     omega
theorem tcN_ask (n : Nat) (m : Int) (s : WS) : ∀ k, k ≤ 8 → s.ask ≤ (addN n m s k).ask ∧ (addN n m s k).ask ≤ s.ask + 8 * k := by
 intro k
 induction k with
 | zero => intro _; exact ⟨Int.le_refl _, by show s.ask ≤ s.ask + 8 * 0; omega⟩
 | succ k ih =>
   intro hk
   have h1 := ih (by omega)
   have h2 := tcS_ask (k + 1) (dg n m k) (addN n m s k)
   rw [addN]
   omega
theorem tcA_bounds {ps : List R3} (hp : ∀ m ∈ ps, 1 ≤ m.c) (hs : sumP ps < 100000000) : ∀ k, k ≤ ps.length → 0 ≤ tcA ps k ∧ tcA ps k ≤ 64 * k := by
 intro k
 induction k with
 | zero => intro _; exact ⟨Int.le_refl _, Int.le_refl _⟩
 | succ k ih =>
   intro hk
   have h1 := ih (by omega)
   obtain ⟨_, hl, _, _⟩ := tc_facts hp hs k (by omega)
   have h2 := tcN_ask (tcL ps k).length (cntP (ps.getD k ⟨0, 0, 0⟩)) ⟨dsOf (tcL ps k), [], 0⟩ (tcL ps k).length (by omega)
   rw [tcA]
   unfold addNst
   dsimp only at h2
   omega
/-- a part's number is added to a frame -/
theorem tc_add {l : List R2} {m : Int} {n : Nat} (h : addNok 1 4 l m = true) (hl : l.length = n) : (dsOf l).length = n ∧ 1 ≤ n ∧ n ≤ 8 ∧ 0 ≤ m ∧ m < 200000000 ∧ (∀ k, k < n → AddFit (k + 1) (dg n m k) (addN n m ⟨dsOf l, [], 0⟩ k).ds) ∧ rodsD (dsOf l) = l := by
 unfold addNok at h
 simp only [Bool.and_eq_true] at h
 have hf := good_fr h.1
 have hs := good_std h.1
 have hh := frB_head hf
 have hdl : (dsOf l).length = n := by rw [dsOf_len, hl]
 have m0 := canAdd_nonneg h.2
 refine ⟨hdl, by omega, by omega, m0, canAdd_bound hf h.2, fun k hk => ?_, rodsD_dsOf hf hs⟩
 have := (addN_facts (s := ⟨dsOf l, [], 0⟩) (m := m) (dsOf_WF hf hs) m0 (canAdd_fit h.2) k (by show k ≤ (dsOf l).length; omega)).2 (by show k < (dsOf l).length; omega)
 rwa [show (WS.ds ⟨dsOf l, [], 0⟩).length = n from hdl] at this
theorem cnt_bd {m : R3} (h : (0 ≤ m.a ∧ m.a ≤ 3) ∧ (0 ≤ m.b ∧ m.b ≤ 3) ∧ (1 ≤ m.c ∧ m.c ≤ 81)) : (m.a + m.b = ((m.a + m.b).toNat : Int)) ∧ (m.a + m.b).toNat ≤ 8 ∧ 1 ≤ cntP m ∧ cntP m ≤ 8100000000 := by
 have h1 := cnt_pos h.2.2.1
 have h2 : pw (m.a + m.b).toNat ≤ 100000000 := pw_lt (by omega)
 have h3 := Int.mul_le_mul h.2.2.2 h2 (by have := pw_pos (m.a + m.b).toNat; omega) (by omega)
 unfold cntP at *
 refine ⟨by omega, by omega, h1, by omega⟩

set_option maxRecDepth 100000 in
set_option maxHeartbeats 8000000 in
theorem counts_any (m : R3) (w : World) (h : (0 ≤ m.a ∧ m.a ≤ 3) ∧ (0 ≤ m.b ∧ m.b ≤ 3) ∧ (1 ≤ m.c ∧ m.c ≤ 81)) : Calls Try.prog 28 #[.agg #[.int .i64 m.a, .int .i64 m.b, .int .i64 m.c]] w (fun e w' => e = .returned (.int .i64 (cntP m)) ∧ Below w.heap.size w w') := by
 obtain ⟨he, h8, hc1, hc2⟩ := cnt_bd h
 have BM := Lib.hid (Blk.born w #[.int .i64 m.a, .int .i64 m.b, .int .i64 m.c] 51 (H := w.heap.size) rfl)
 have hx := Lib.hid (ext_alloc (ext_refl w) (.cells #[.int .i64 m.a, .int .i64 m.b, .int .i64 m.c] 51))
 have HPW := Lib.hid (fun (w : World) => power_any (m.a + m.b).toNat w h8)
 have hK : m.c * pw (m.a + m.b).toNat = cntP m := rfl
 rw [← he] at HPW
 obtain ⟨P, hP⟩ : ∃ o9, pw (m.a + m.b).toNat = o9 := ⟨_, rfl⟩
 obtain ⟨K, hK2⟩ : ∃ o9, cntP m = o9 := ⟨_, rfl⟩
 rw [hP] at HPW hK
 rw [hK2] at hK hc1 hc2 ⊢
 have hs : 0 ≤ m.a + m.b ∧ m.a + m.b ≤ 6 := by omega
 have w1 : wrap64 (m.a + m.b) = m.a + m.b := by unfold wrap64; omega
 have w2 : IntKind.i64.wrap (m.a + m.b) = m.a + m.b := by rw [IntKind.wrap_i64]; omega
 have w3 : wrap64 K = K := by unfold wrap64; omega
 have w4 : IntKind.i64.wrap K = K := by rw [IntKind.wrap_i64]; omega
 clear hP hK2 he h
 obtain ⟨x0, x1, x2⟩ := BM.out.q3
 have lx := BM.out.lt
 go_enter Try.func28, Try.ntmps28
 go_wp2_with fail
 (refine wp_region_later (by kernel_rfl) (by kernel_rfl) ?_; (repeat (go_big_quiet_step ((go_at_call 48; exact Calls.later_same (HPW.out _))))); refine wpQuiet_nil ?_; intro wq hw1; obtain ⟨⟨wl, hb⟩, hw1'⟩ := hw1; simp only at hw1'; subst hw1')
 go_wp2
 go_ret
 exact ⟨rfl, ext_trans hx.out hb⟩

def TmR (S g : Nat) (Z0 NF NP : Nat) (A : Option Addr) (c : Nat) (m : R3) (K : Int) (q : WS) (vs : Nat → Value) (wx : World) : Nat → Prop
 | 0 => vs 30 = frV 1 4 A 8 c
 | 1 => vs 31 = .agg #[.int .i64 m.a, .int .i64 m.b, .int .i64 m.c]
 | 2 => vs 32 = .int .i64 K
 | 3 => ∃ (gw : Nat) (hh : Nat) (cr : Nat) (cm : Nat) (Am : Option Addr), vs 33 = .tuple #[.pointer (some ⟨gw, 0, none⟩), .bool true] ∧ (Blk wx gw 62 #[.int .i64 1, .int .i64 4, .slice (some ⟨hh, 0, none⟩) q.ds.length cr, .slice Am q.ms.length cm, .int .i64 q.ask]) ∧ (wx.ownsRow S 54 2 (.slice (some ⟨hh, 0, none⟩) q.ds.length cr) q.ds.length (rowsV2 (rodsD q.ds))) ∧ (Z0 ≤ gw)
 | 4 => ∃ (gw : Nat) (hh : Nat) (cr : Nat) (cm : Nat) (Am : Option Addr), vs 29 = .tuple #[.pointer (some ⟨gw, 0, none⟩), .bool true] ∧ (Blk wx gw 62 #[.int .i64 1, .int .i64 4, .slice (some ⟨hh, 0, none⟩) q.ds.length cr, .slice Am q.ms.length cm, .int .i64 q.ask]) ∧ (wx.ownsRow S 54 2 (.slice (some ⟨hh, 0, none⟩) q.ds.length cr) q.ds.length (rowsV2 (rodsD q.ds))) ∧ (Z0 ≤ gw)
 | 5 => ∃ (gw : Nat) (hh : Nat) (cr : Nat) (cm : Nat) (Am : Option Addr), vs 34 = .pointer (some ⟨gw, 0, none⟩) ∧ (Blk wx gw 62 #[.int .i64 1, .int .i64 4, .slice (some ⟨hh, 0, none⟩) q.ds.length cr, .slice Am q.ms.length cm, .int .i64 q.ask]) ∧ (wx.ownsRow S 54 2 (.slice (some ⟨hh, 0, none⟩) q.ds.length cr) q.ds.length (rowsV2 (rodsD q.ds))) ∧ (Z0 ≤ gw)
 | 6 => vs 35 = .bool true
 | 7 => ∃ (gw : Nat) (hh : Nat) (cr : Nat) (cm : Nat) (Am : Option Addr), vs 11 = .pointer (some ⟨gw, 0, none⟩) ∧ (Blk wx gw 62 #[.int .i64 1, .int .i64 4, .slice (some ⟨hh, 0, none⟩) q.ds.length cr, .slice Am q.ms.length cm, .int .i64 q.ask]) ∧ (wx.ownsRow S 54 2 (.slice (some ⟨hh, 0, none⟩) q.ds.length cr) q.ds.length (rowsV2 (rodsD q.ds))) ∧ (Z0 ≤ gw)
 | 8 => vs 12 = .bool true
 | _ => True
def TmRU : Nat → List Nat
 | 0 => [30]
 | 1 => [31]
 | 2 => [32]
 | 3 => [33]
 | 4 => [29]
 | 5 => [34]
 | 6 => [35]
 | 7 => [11]
 | 8 => [12]
 | _ => []
def TmRR (g : Nat) (Z0 NF NP : Nat) (A : Option Addr) (c : Nat) (m : R3) (K : Int) (q : WS) (i : Nat) (wx wy : World) : Prop := Below wx.heap.size wx wy
theorem TmR_gr {S g : Nat} {Z0 NF NP : Nat} {A : Option Addr} {c : Nat} {m : R3} {K : Int} {q : WS} (hgS : True) {vs us : Nat → Value} {wx wy : World} {jN : Nat} (hGG : TmR S g Z0 NF NP A c m K q vs wx jN) (haG : ∀ d ∈ TmRU jN, us d = vs d) (hbG : Below wx.heap.size wx wy) : TmR S g Z0 NF NP A c m K q us wy jN := by
 match jN, hGG, haG with
 | 0, hGG, haG =>
   exact (haG 30 (by simp [TmRU])).trans hGG
 | 1, hGG, haG =>
   exact (haG 31 (by simp [TmRU])).trans hGG
 | 2, hGG, haG =>
   exact (haG 32 (by simp [TmRU])).trans hGG
 | 3, hGG, haG =>
   obtain ⟨xG0, xG1, xG2, xG3, xG4, eG, fG0, fG1, fG2⟩ := hGG
   exact ⟨xG0, xG1, xG2, xG3, xG4, (haG 33 (by simp [TmRU])).trans eG, fG0.ext hbG, own_ext fG1 hbG, fG2⟩
 | 4, hGG, haG =>
   obtain ⟨xG0, xG1, xG2, xG3, xG4, eG, fG0, fG1, fG2⟩ := hGG
   exact ⟨xG0, xG1, xG2, xG3, xG4, (haG 29 (by simp [TmRU])).trans eG, fG0.ext hbG, own_ext fG1 hbG, fG2⟩
 | 5, hGG, haG =>
   obtain ⟨xG0, xG1, xG2, xG3, xG4, eG, fG0, fG1, fG2⟩ := hGG
   exact ⟨xG0, xG1, xG2, xG3, xG4, (haG 34 (by simp [TmRU])).trans eG, fG0.ext hbG, own_ext fG1 hbG, fG2⟩
 | 6, hGG, haG =>
   exact (haG 35 (by simp [TmRU])).trans hGG
 | 7, hGG, haG =>
   obtain ⟨xG0, xG1, xG2, xG3, xG4, eG, fG0, fG1, fG2⟩ := hGG
   exact ⟨xG0, xG1, xG2, xG3, xG4, (haG 11 (by simp [TmRU])).trans eG, fG0.ext hbG, own_ext fG1 hbG, fG2⟩
 | 8, hGG, haG =>
   exact (haG 12 (by simp [TmRU])).trans hGG
 | jN + 9, _, _ => trivial
def TmRP (j i : Nat) : Bool := false
theorem TmR_keep {S g : Nat} {Z0 NF NP : Nat} {A : Option Addr} {c : Nat} {m : R3} {K : Int} {q : WS} (hgS : True) {vs us : Nat → Value} {wx wy : World} {iN jN : Nat} (hneG : iN ≠ jN) (hdpG : TmRP jN iN = false) (hGG : TmR S g Z0 NF NP A c m K q vs wx jN) (haG : ∀ d ∈ TmRU jN, us d = vs d) (hbG : TmRR g Z0 NF NP A c m K q iN wx wy) : TmR S g Z0 NF NP A c m K q us wy jN := by
 unfold TmRR at hbG
 exact TmR_gr hgS hGG haG hbG
set_option maxRecDepth 100000 in
set_option maxHeartbeats 8000000 in
theorem implTimesCarries_any (a b : Int) (w : World) : Calls Try.prog 18 #[.int .i64 a, .int .i64 b] w (RetV (.tuple #[.int .i64 (tcV a b), .bool (tcB a b)]) w) := by
 have HF := Lib.hid (fun (w : World) => areFactors_any a b w)
 unfold RetV
 cases hb0 : facB a b
 · have e : tcB a b = false := by unfold tcB; rw [hb0]
   rw [show tcV a b = 0 by unfold tcV; rw [if_neg (by rw [e]; simp)], e]
   rw [hb0] at HF
   clear hb0 e
   go_enter Try.func18, Try.ntmps18
   go_wp2_with fail
   refine (HF.out _).mono ?_
   rintro e wz ⟨rfl, rfl⟩
   go_wp2
   go_ret2
   exact ⟨rfl, ext_refl _⟩
 have e : tcB a b = true := by unfold tcB; rw [hb0]
 rw [show tcV a b = tcA (ptsF a b) (ptsF a b).length by unfold tcV; rw [if_pos e], e]
 obtain ⟨hn16, hpo, hsum, hab⟩ := ptsF_facts (a := a) (b := b) hb0
 have HPT := Lib.hid (fun (w : World) => implPartsOf_any a b w hb0)
 unfold RetSlice at HPT
 rw [hb0] at HF
 obtain ⟨ps, hps⟩ : ∃ o9, ptsF a b = o9 := ⟨_, rfl⟩
 rw [hps] at HPT hn16 hpo hsum ⊢
 have htc := tc_facts (ps := ps) (fun m hm => (hpo m hm).2.2.1) (by omega)
 have hta := tcA_bounds (ps := ps) (fun m hm => (hpo m hm).2.2.1) (by omega)
 have HPO := Lib.hid hpo
 have HTC := Lib.hid htc
 have HTA := Lib.hid hta
 obtain ⟨n, hn⟩ : ∃ o9, ps.length = o9 := ⟨_, rfl⟩
 rw [hn] at HPT HTC HTA hn16 ⊢
 have HN := Lib.hid hn
 clear hps hsum hab htc hta hpo hn e hb0
 go_enter Try.func18, Try.ntmps18
 go_wp2_with fail
 refine (HF.out _).mono ?_
 rintro e wz ⟨rfl, rfl⟩
 go_wp2_with fail
 refine (frameFor8_any _).mono ?_
 rintro e w1 ⟨A0, c0, rfl, ho, hb⟩
 rw [show ((1 : Int), (4 : Int), zeros8).2.2 = tcL ps 0 from rfl] at ho
 have ho : w1.ownsRow w.heap.size 54 2 (.slice A0 8 c0) 8 (rowsV2 (tcL ps 0)) := ho
 obtain ⟨NF, hNF⟩ : ∃ N, N = w1.heap.size := ⟨_, rfl⟩
 obtain ⟨w2, hw2⟩ : ∃ y9 : World, y9 = w1.alloc (.cells #[.int .i64 1, .int .i64 4, .slice A0 8 c0] 42) := ⟨_, rfl⟩
 have BF2 := Lib.hid (show Blk w2 NF 42 #[.int .i64 1, .int .i64 4, .slice A0 8 c0] by rw [hw2]; exact Blk.born w1 _ 42 (H := NF) hNF)
 have HO2 := Lib.hid (show w2.ownsRow w.heap.size 54 2 (.slice A0 8 c0) 8 (rowsV2 (tcL ps 0)) by rw [hw2]; exact ho.alloc _)
 have HX2 := Lib.hid (show Below w.heap.size w w2 by rw [hw2]; exact ext_alloc hb _)
 have hNw : w.heap.size ≤ NF := by have := hb.size; omega
 go_upto_region 5 with fail
 rw [show zeros8.length = 8 from rfl, show w1.heap.size = NF from hNF.symm, ← hw2]
 clear hNF hw2 ho hb
 go_wp2_with fail
 refine (HPT.out _).mono ?_
 rintro e w3 ⟨Ap, cp, rfl, hop, hb⟩
 have BF3 := Lib.hid (BF2.out.ext hb)
 have HO3 := Lib.hid (own_ext HO2.out hb)
 have HP3 := Lib.hid (own_base (base' := w.heap.size) hop HX2.out.size)
 have HX3 := Lib.hid (ext_trans HX2.out hb)
 clear hop hb BF2 HO2 HX2
 go_wp2_with fail
 go_loopw [8, 25] (fun cv iv wr => ∃ (k : Nat) (A : Option Addr) (c : Nat), k ≤ n ∧ cv = .int .i64 (tcA ps k) ∧ iv = .int .i64 (k : Int) ∧ Hid (Blk wr NF 42 #[.int .i64 1, .int .i64 4, .slice A 8 c]) ∧ Hid (wr.ownsRow w.heap.size 54 2 (.slice A 8 c) 8 (rowsV2 (tcL ps k))) ∧ Hid (wr.ownsRow w.heap.size 51 3 (.slice Ap n cp) n (rowsV3 ps)) ∧ Hid (Below w.heap.size w wr)) (fun _ iv _ => n - (intOf iv).toNat)
 case atStart => exact ⟨0, A0, c0, Nat.zero_le _, rfl, rfl, BF3, HO3, HP3, HX3⟩
 case round =>
  clear BF3 HO3 HP3 HX3
  obtain ⟨k, A, c, hk, rfl, rfl, BF, HO, HP, HX⟩ := hrel
  obtain ⟨W, hW⟩ : ∃ y : World, y = wr := ⟨_, rfl⟩
  subst hW
  by_cases hlt : k < n
  · obtain ⟨m, hm⟩ := list_split (l := ps) (k := k) (by rw [HN.out]; exact hlt)
    have hmb := HPO.out m (List.mem_of_getElem? hm)
    obtain ⟨hcd1, hcd2, hcd3, hcd4⟩ := cnt_bd hmb
    obtain ⟨hg, hl8, _, hadd⟩ := HTC.out k hk
    have hok := hadd m hm
    have hA1 : tcA ps (k + 1) = tcA ps k + (addNst (tcL ps k) (cntP m)).ask := by rw [tcA, show ps.getD k ⟨0, 0, 0⟩ = m by rw [List.getD_eq_getElem?_getD, hm]; rfl]
    have hL1 : tcL ps (k + 1) = rodsD (addNst (tcL ps k) (cntP m)).ds := by rw [tcL, show ps.getD k ⟨0, 0, 0⟩ = m by rw [List.getD_eq_getElem?_getD, hm]; rfl]
    have hl9 := (HTC.out (k + 1) (by omega)).2.1
    rw [hL1, rodsD_len] at hl9
    have hta1 := HTA.out (k + 1) (by omega)
    have hta0 := HTA.out k hk
    rw [hA1] at hta1
    have hst : addN 8 (cntP m) ⟨dsOf (tcL ps k), [], 0⟩ 8 = addNst (tcL ps k) (cntP m) := by unfold addNst; rw [hl8]
    have HAN := Lib.hid (fun (w : World) h => addNumber_yes 1 4 A 8 c (tcL ps k) (cntP m) w (by omega) h hok)
    rw [hst] at HAN
    have HCN := Lib.hid (fun (w : World) => counts_any m w hmb)
    obtain ⟨q, hq⟩ : ∃ o9, addNst (tcL ps k) (cntP m) = o9 := ⟨_, rfl⟩
    obtain ⟨K, hK⟩ : ∃ o9, cntP m = o9 := ⟨_, rfl⟩
    rw [hq] at HAN hA1 hL1 hl9 hta1
    rw [hK] at HAN HCN
    unfold RetWk at HAN
    have HA1 := Lib.hid hA1
    have HL1 := Lib.hid hL1
    obtain ⟨Tk, hTk⟩ : ∃ o9, tcA ps k = o9 := ⟨_, rfl⟩
    rw [hTk] at hta1 hta0 HA1 ⊢
    obtain ⟨bp, op, hAp, hbp, c0, c1, c2⟩ := rows_at3 (Reads.of_own HP.out) hm
    subst hAp
    have k1 : (k : Int) < (n : Int) := by omega
    have k0 : (0 : Int) ≤ (k : Int) := by omega
    obtain ⟨NP, hNP⟩ : ∃ N, N = W.heap.size := ⟨_, rfl⟩
    obtain ⟨W2, hW2⟩ : ∃ y9 : World, y9 = W.alloc (.cells #[.int .i64 m.a, .int .i64 m.b, .int .i64 m.c] 51) := ⟨_, rfl⟩
    have BP2 := Lib.hid (show Blk W2 NP 51 #[.int .i64 m.a, .int .i64 m.b, .int .i64 m.c] by rw [hW2]; exact Blk.born W _ 51 (H := NP) hNP)
    have BF2 := Lib.hid (show Blk W2 NF 42 #[.int .i64 1, .int .i64 4, .slice A 8 c] by rw [hW2]; exact BF.out.al _)
    have HO2 := Lib.hid (show W2.ownsRow w.heap.size 54 2 (.slice A 8 c) 8 (rowsV2 (tcL ps k)) by rw [hW2]; exact HO.out.alloc _)
    have HP2 := Lib.hid (show W2.ownsRow w.heap.size 51 3 (.slice (some ⟨bp, op, none⟩) n cp) n (rowsV3 ps) by rw [hW2]; exact HP.out.alloc _)
    have HX2 := Lib.hid (show Below w.heap.size w W2 by rw [hW2]; exact ext_alloc HX.out _)
    go_upto_region 8 with fail
    rw [show W.heap.size = NP from hNP.symm, ← hW2]
    clear hNP hW2 c0 c1 c2 hbp hm hq hK hA1 hL1 hTk BF HO HP HX hg hadd hok hst hmb hcd1 hcd2
    have HO := HO2
    obtain ⟨m0, m1, m2⟩ := BF2.out.q3
    have lm := BF2.out.lt
    refine wp_region_m (by kernel_rfl) (by kernel_rfl) [11, 12, 29, 30, 31, 32, 33, 34, 35] TmRU (by kernel_rfl) (by decide) 36 (by kernel_rfl) (by simp) (fun ra0 => ra0.eval (.tmp 6) = .pointer (some ⟨NF, 0, none⟩) ∧ ra0.eval (.tmp 10) = .pointer (some ⟨NP, 0, none⟩)) ⟨by kernel_rfl, by kernel_rfl⟩ TmRP (by kernel_rfl) (IExt W2 W2 9 9 (fun wx => True)) (TmRR 0 W2.heap.size NF NP A c m K q) (fun jN vs wx => TmR W2.heap.size 0 W2.heap.size NF NP A c m K q vs wx jN) ⟨((ext_refl W2)).drew, Nat.le_refl _, fun _ => (ext_refl _).drew, fun _ => trivial⟩ (fun _ _ _ _ _ _ h0 hd h1 h2 h3 => TmR_keep trivial h0 hd h1 h2 h3) ?_ ?_
    · intro ra0 hE ri ro ho Qx vs wx rb KX kk rL hI hkk hnl hLt hcl hdep rb0 rbk HK
      repeat (rename_i hz9; clear hz9)
      obtain ⟨rq6, rq10⟩ := hE
      have hi : ri < 9 := by
       rcases Nat.lt_or_ge ri 9 with h | h
       · exact h
       · rw [Array.getElem?_eq_none (by simpa using h)] at ho; cases ho
      have hkk : kk < 9 := by simpa using hkk
      obtain ⟨hGw, hsz, hpre, hBx⟩ := hI
      have HQ : ∀ w', Below wx.heap.size wx w' → IExt W2 W2 9 9 (fun wx => True) (kk + 1) (fun j => j = ri ∨ rL j) w' := fun w' h3 => ⟨ext_trans hGw h3, Nat.le_trans hsz h3.size, fun hn => ext_trans (hpre (fun x => hn (.inr x))) h3, fun hn => (fun hB => trivial) (hBx (fun x => hn (.inr x)))⟩
      have HQX := Lib.hid HQ
      have HGW := Lib.hid hGw
      have HPRE := Lib.hid hpre
      have HBX := Lib.hid hBx
      have HCL := Lib.hid hcl
      clear HQ hGw hpre hBx hcl
      rcases (show ri = 0 ∨ ri = 1 ∨ ri = 2 ∨ ri = 3 ∨ ri = 4 ∨ ri = 5 ∨ ri = 6 ∨ ri = 7 ∨ ri = 8 by omega) with rfl | rfl | rfl | rfl | rfl | rfl | rfl | rfl | rfl
      · simp only [List.getElem?_toArray, List.getElem?_cons_succ, List.getElem?_cons_zero, Option.some.injEq] at ho
        subst ho
        have HKX := Lib.hid HK
        clear HK
        have p6 := (rb0 6 (by decide)).trans rq6
        have hNL : ¬ rL 9 := fun h => absurd (hLt _ h) (by simp)
        have HGP := Lib.hid (HPRE.out hNL)
        obtain ⟨x0, x1, x2⟩ := (BF2.out.ext HGP.out).q3
        have lnx := (BF2.out.ext HGP.out).lt
        obtain ⟨t0, t1, t2⟩ := (BP2.out.ext HGP.out).q3
        have ltx := (BP2.out.ext HGP.out).lt
        clear rb0 rbk hdep
        go_simp
        exact HKX.out _ _ (HQX.out _ (ext_refl _)) (by unfold TmRR; exact ext_refl _) (upd_same _ _ _)
      · simp only [List.getElem?_toArray, List.getElem?_cons_succ, List.getElem?_cons_zero, Option.some.injEq] at ho
        subst ho
        have HKX := Lib.hid HK
        clear HK
        have p10 := (rb0 10 (by decide)).trans rq10
        have hNL : ¬ rL 9 := fun h => absurd (hLt _ h) (by simp)
        have HGP := Lib.hid (HPRE.out hNL)
        obtain ⟨x0, x1, x2⟩ := (BF2.out.ext HGP.out).q3
        have lnx := (BF2.out.ext HGP.out).lt
        obtain ⟨t0, t1, t2⟩ := (BP2.out.ext HGP.out).q3
        have ltx := (BP2.out.ext HGP.out).lt
        clear rb0 rbk hdep
        go_simp
        exact HKX.out _ _ (HQX.out _ (ext_refl _)) (by unfold TmRR; exact ext_refl _) (upd_same _ _ _)
      · simp only [List.getElem?_toArray, List.getElem?_cons_succ, List.getElem?_cons_zero, Option.some.injEq] at ho
        subst ho
        have HKX := Lib.hid HK
        clear HK
        have e1 : vs 31 = .agg #[.int .i64 m.a, .int .i64 m.b, .int .i64 m.c] := (hdep 1 (by kernel_rfl)).2
        have rr1 := (rbk 31 (by decide)).trans e1
        have E1 := Lib.hid e1
        clear e1
        clear rb0 rbk hdep
        go_simp
        refine (HCN.out _).mono ?_
        rintro e w' ⟨rfl, hb⟩
        go_simp
        exact HKX.out _ _ (HQX.out _ hb) (by unfold TmRR; exact hb) (upd_same _ _ _)
      · simp only [List.getElem?_toArray, List.getElem?_cons_succ, List.getElem?_cons_zero, Option.some.injEq] at ho
        subst ho
        have HKX := Lib.hid HK
        clear HK
        have e0 : vs 30 = frV 1 4 A 8 c := (hdep 0 (by kernel_rfl)).2
        have rr0 := (rbk 30 (by decide)).trans e0
        have E0 := Lib.hid e0
        clear e0
        have e2 : vs 32 = .int .i64 K := (hdep 2 (by kernel_rfl)).2
        have rr2 := (rbk 32 (by decide)).trans e2
        have E2 := Lib.hid e2
        clear e2
        have hNL : ¬ rL 9 := fun h => absurd (hLt _ h) (by simp)
        have HGP := Lib.hid (HPRE.out hNL)
        obtain ⟨x0, x1, x2⟩ := (BF2.out.ext HGP.out).q3
        have lnx := (BF2.out.ext HGP.out).lt
        obtain ⟨t0, t1, t2⟩ := (BP2.out.ext HGP.out).q3
        have ltx := (BP2.out.ext HGP.out).lt
        clear rb0 rbk hdep
        go_simp
        refine (HAN.out _ (Reads.of_own (own_ext HO.out HGP.out))).mono ?_
        rintro e w' ⟨gw, rfl, ⟨hh, cr, cm, Am, hBw, hgw, hor, hom⟩, hb⟩
        have hsx := HGW.out.size
        go_simp
        exact HKX.out _ _ (HQX.out _ hb) (by unfold TmRR; exact hb) (⟨gw, hh, cr, cm, Am, upd_same _ _ _, hBw, own_base hor hsx, by omega⟩)
      · simp only [List.getElem?_toArray, List.getElem?_cons_succ, List.getElem?_cons_zero, Option.some.injEq] at ho
        subst ho
        have HKX := Lib.hid HK
        clear HK
        obtain ⟨gw, hh, cr, cm, Am, e3, k3_0, k3_1, k3_2⟩ := (hdep 3 (by kernel_rfl)).2
        have rr3 := (rbk 33 (by decide)).trans e3
        have E3 := Lib.hid e3
        clear e3
        have K3_0 := Lib.hid k3_0
        clear k3_0
        have K3_1 := Lib.hid k3_1
        clear k3_1
        clear rb0 rbk hdep
        go_simp
        exact HKX.out _ _ (HQX.out _ (ext_refl _)) (by unfold TmRR; exact ext_refl _) (⟨gw, hh, cr, cm, Am, upd_same _ _ _, K3_0.out, K3_1.out, k3_2⟩)
      · simp only [List.getElem?_toArray, List.getElem?_cons_succ, List.getElem?_cons_zero, Option.some.injEq] at ho
        subst ho
        have HKX := Lib.hid HK
        clear HK
        obtain ⟨gw, hh, cr, cm, Am, e4, k4_0, k4_1, k4_2⟩ := (hdep 4 (by kernel_rfl)).2
        have rr4 := (rbk 29 (by decide)).trans e4
        have E4 := Lib.hid e4
        clear e4
        have K4_0 := Lib.hid k4_0
        clear k4_0
        have K4_1 := Lib.hid k4_1
        clear k4_1
        clear rb0 rbk hdep
        go_simp
        exact HKX.out _ _ (HQX.out _ (ext_refl _)) (by unfold TmRR; exact ext_refl _) (⟨gw, hh, cr, cm, Am, upd_same _ _ _, K4_0.out, K4_1.out, k4_2⟩)
      · simp only [List.getElem?_toArray, List.getElem?_cons_succ, List.getElem?_cons_zero, Option.some.injEq] at ho
        subst ho
        have HKX := Lib.hid HK
        clear HK
        obtain ⟨gw, hh, cr, cm, Am, e4, k4_0, k4_1, k4_2⟩ := (hdep 4 (by kernel_rfl)).2
        have rr4 := (rbk 29 (by decide)).trans e4
        have E4 := Lib.hid e4
        clear e4
        have K4_0 := Lib.hid k4_0
        clear k4_0
        have K4_1 := Lib.hid k4_1
        clear k4_1
        clear rb0 rbk hdep
        go_simp
        exact HKX.out _ _ (HQX.out _ (ext_refl _)) (by unfold TmRR; exact ext_refl _) (upd_same _ _ _)
      · simp only [List.getElem?_toArray, List.getElem?_cons_succ, List.getElem?_cons_zero, Option.some.injEq] at ho
        subst ho
        have HKX := Lib.hid HK
        clear HK
        obtain ⟨gw, hh, cr, cm, Am, e5, k5_0, k5_1, k5_2⟩ := (hdep 5 (by kernel_rfl)).2
        have rr5 := (rbk 34 (by decide)).trans e5
        have E5 := Lib.hid e5
        clear e5
        have K5_0 := Lib.hid k5_0
        clear k5_0
        have K5_1 := Lib.hid k5_1
        clear k5_1
        clear rb0 rbk hdep
        go_simp
        exact HKX.out _ _ (HQX.out _ (ext_refl _)) (by unfold TmRR; exact ext_refl _) (⟨gw, hh, cr, cm, Am, upd_same _ _ _, K5_0.out, K5_1.out, k5_2⟩)
      · simp only [List.getElem?_toArray, List.getElem?_cons_succ, List.getElem?_cons_zero, Option.some.injEq] at ho
        subst ho
        have HKX := Lib.hid HK
        clear HK
        have e6 : vs 35 = .bool true := (hdep 6 (by kernel_rfl)).2
        have rr6 := (rbk 35 (by decide)).trans e6
        have E6 := Lib.hid e6
        clear e6
        clear rb0 rbk hdep
        go_simp
        exact HKX.out _ _ (HQX.out _ (ext_refl _)) (by unfold TmRR; exact ext_refl _) (upd_same _ _ _)
    intro vs wx kk rL hI hkk hLt hall
    obtain ⟨_, gw, hh, cr, cm, Am, e11, hBw, hor, hgw⟩ := hall 7 (by decide)
    obtain ⟨_, e12⟩ := hall 8 (by decide)
    obtain ⟨hg2, _, _, _⟩ := hI
    have BW3 := Lib.hid hBw
    have HR3 := Lib.hid (own_base (base' := w.heap.size) hor (by omega))
    have BF3 := Lib.hid (BF2.out.ext hg2)
    have HP3 := Lib.hid (own_ext HP2.out hg2)
    have HX3 := Lib.hid (ext_trans HX2.out hg2)
    have hne : NF ≠ gw := by have := BF2.out.lt; omega
    clear hLt hall hBw hor hg2 m0 m1 m2 lm BF2 HO HO2 HP2 HX2 BP2
    simp only [sl]
    rw [e11, e12]
    simp only [Act.put, List.setIfInBounds_toArray, List.set_cons_succ, List.set_cons_zero]
    clear e11 e12
    obtain ⟨v0, v1, v2, v3, v4⟩ := BW3.out.q5
    have lv := BW3.out.lt
    obtain ⟨m0, m1, m2⟩ := BF3.out.q3
    obtain ⟨z0, z1, z2⟩ := BF3.out.z3
    have lm := BF3.out.lt
    have hw1 : wrap64 (Tk + q.ask) = Tk + q.ask := by unfold wrap64; omega
    have hw2 : IntKind.i64.wrap (Tk + q.ask) = Tk + q.ask := by rw [IntKind.wrap_i64]; omega
    rw [hl9] at v2 HR3
    go_wp2
    go_roundw
    case rel => exact ⟨k + 1, some ⟨hh, 0, none⟩, cr, by omega, by rw [HA1.out], by go_num, Lib.hid (fr_put BF3.out), by rw [HL1.out]; exact Lib.hid (fill_own' HR3.out (own_nbT HR3.out BF3.out (by decide))), Lib.hid (fill_own' HP3.out (own_nbT HP3.out BF3.out (by decide))), Lib.hid (fill_below HX3.out hNw)⟩
    case measure => simp [intOf]; omega
  · obtain rfl : k = n := by omega
    go_wp2
    go_ret2
    exact ⟨rfl, HX.out⟩

set_option maxRecDepth 100000 in
set_option maxHeartbeats 8000000 in
theorem specTimesCarries_any (a b : Int) (w : World) : Calls Try.prog 19 #[.int .i64 a, .int .i64 b] w (RetV (.tuple #[.int .i64 (tcV a b), .bool (tcB a b)]) w) := by
 have HF := Lib.hid (fun (w : World) => l9Both_any a b w)
 unfold RetV
 cases hb0 : facB a b
 · have e : tcB a b = false := by unfold tcB; rw [hb0]
   rw [show tcV a b = 0 by unfold tcV; rw [if_neg (by rw [e]; simp)], e]
   rw [hb0] at HF
   clear hb0 e
   go_enter Try.func19, Try.ntmps19
   go_wp2_with fail
   refine (HF.out _).mono ?_
   rintro e wz ⟨rfl, rfl⟩
   go_wp2
   go_ret2
   exact ⟨rfl, ext_refl _⟩
 have e : tcB a b = true := by unfold tcB; rw [hb0]
 rw [show tcV a b = tcA (ptsF a b) (ptsF a b).length by unfold tcV; rw [if_pos e], e]
 obtain ⟨hn16, hpo, hsum, hab⟩ := ptsF_facts (a := a) (b := b) hb0
 have HPT := Lib.hid (fun (w : World) => specL9Parts_any a b w hb0)
 unfold RetSlice at HPT
 rw [hb0] at HF
 obtain ⟨ps, hps⟩ : ∃ o9, ptsF a b = o9 := ⟨_, rfl⟩
 rw [hps] at HPT hn16 hpo hsum ⊢
 have htc := tc_facts (ps := ps) (fun m hm => (hpo m hm).2.2.1) (by omega)
 have hta := tcA_bounds (ps := ps) (fun m hm => (hpo m hm).2.2.1) (by omega)
 have HPO := Lib.hid hpo
 have HTC := Lib.hid htc
 have HTA := Lib.hid hta
 obtain ⟨n, hn⟩ : ∃ o9, ps.length = o9 := ⟨_, rfl⟩
 rw [hn] at HPT HTC HTA hn16 ⊢
 have HN := Lib.hid hn
 clear hps hsum hab htc hta hpo hn e hb0
 go_enter Try.func19, Try.ntmps19
 go_wp2_with fail
 refine (HF.out _).mono ?_
 rintro e wz ⟨rfl, rfl⟩
 go_wp2_with fail
 refine (HPT.out _).mono ?_
 rintro e w1 ⟨Ap, cp, rfl, hop, hb1⟩
 go_wp2_with fail
 refine (l2For_any 1 4 8 0 _ (by omega) (by omega) (by omega) (by omega)).mono ?_
 rintro e w2 ⟨A0, c0, rfl, ho, hb2⟩
 have ho : w2.ownsRow w1.heap.size 54 2 (.slice A0 8 c0) 8 (rowsV2 (tcL ps 0)) := by
  have h9 := ho
  rw [show forL 8 0 8 = tcL ps 0 from (by decide : forL 8 0 8 = rodsD [0, 0, 0, 0, 0, 0, 0, 0])] at h9
  exact h9
 obtain ⟨NF, hNF⟩ : ∃ N, N = w2.heap.size := ⟨_, rfl⟩
 obtain ⟨w3, hw3⟩ : ∃ y9 : World, y9 = w2.alloc (.cells #[.int .i64 1, .int .i64 4, .slice A0 8 c0] 42) := ⟨_, rfl⟩
 have BF3 := Lib.hid (show Blk w3 NF 42 #[.int .i64 1, .int .i64 4, .slice A0 8 c0] by rw [hw3]; exact Blk.born w2 _ 42 (H := NF) hNF)
 have HO3 := Lib.hid (show w3.ownsRow w.heap.size 54 2 (.slice A0 8 c0) 8 (rowsV2 (tcL ps 0)) by rw [hw3]; exact (own_base ho hb1.size).alloc _)
 have HP3 := Lib.hid (show w3.ownsRow w.heap.size 51 3 (.slice Ap n cp) n (rowsV3 ps) by rw [hw3]; exact (own_ext hop hb2).alloc _)
 have HX3 := Lib.hid (show Below w.heap.size w w3 by rw [hw3]; exact ext_alloc (ext_trans hb1 hb2) _)
 have hNw : w.heap.size ≤ NF := by have := (ext_trans hb1 hb2).size; omega
 rw [show (forL 8 0 8).length = 8 from rfl]
 go_upto_region 4 with fail
 rw [show w2.heap.size = NF from hNF.symm, ← hw3]
 clear hNF hw3 ho hb1 hb2 hop
 go_wp2_with fail
 go_loopw [7, 9] (fun cv iv wr => ∃ (k : Nat) (A : Option Addr) (c : Nat), k ≤ n ∧ cv = .int .i64 (tcA ps k) ∧ iv = .int .i64 (k : Int) ∧ Hid (Blk wr NF 42 #[.int .i64 1, .int .i64 4, .slice A 8 c]) ∧ Hid (wr.ownsRow w.heap.size 54 2 (.slice A 8 c) 8 (rowsV2 (tcL ps k))) ∧ Hid (wr.ownsRow w.heap.size 51 3 (.slice Ap n cp) n (rowsV3 ps)) ∧ Hid (Below w.heap.size w wr)) (fun _ iv _ => n - (intOf iv).toNat)
 case atStart => exact ⟨0, A0, c0, Nat.zero_le _, rfl, rfl, BF3, HO3, HP3, HX3⟩
 case round =>
  clear BF3 HO3 HP3 HX3
  obtain ⟨k, A, c, hk, rfl, rfl, BF, HO, HP, HX⟩ := hrel
  obtain ⟨W, hW⟩ : ∃ y : World, y = wr := ⟨_, rfl⟩
  subst hW
  by_cases hlt : k < n
  · obtain ⟨m, hm⟩ := list_split (l := ps) (k := k) (by rw [HN.out]; exact hlt)
    have hmb := HPO.out m (List.mem_of_getElem? hm)
    obtain ⟨hcd1, hcd2, hcd3, hcd4⟩ := cnt_bd hmb
    obtain ⟨hg, hl8, _, hadd⟩ := HTC.out k hk
    have hok := hadd m hm
    have hA1 : tcA ps (k + 1) = tcA ps k + (addNst (tcL ps k) (cntP m)).ask := by rw [tcA, show ps.getD k ⟨0, 0, 0⟩ = m by rw [List.getD_eq_getElem?_getD, hm]; rfl]
    have hL1 : tcL ps (k + 1) = rodsD (addNst (tcL ps k) (cntP m)).ds := by rw [tcL, show ps.getD k ⟨0, 0, 0⟩ = m by rw [List.getD_eq_getElem?_getD, hm]; rfl]
    have hl9 := (HTC.out (k + 1) (by omega)).2.1
    rw [hL1, rodsD_len] at hl9
    have hta1 := HTA.out (k + 1) (by omega)
    have hta0 := HTA.out k hk
    rw [hA1] at hta1
    have hst : addN 8 (cntP m) ⟨dsOf (tcL ps k), [], 0⟩ 8 = addNst (tcL ps k) (cntP m) := by unfold addNst; rw [hl8]
    obtain ⟨td1, td2, td3, td4, td5, tdF, tdr⟩ := tc_add hok hl8
    have FIT := Lib.hid tdF
    have HCO := Lib.hid (fun (w : World) h => specCarriesOf_any 1 4 A 8 c (tcL ps k) (cntP m) w (by omega) h)
    rw [hok, if_pos rfl] at HCO
    have HLN := Lib.hid (fun (w : World) (h : Reads w w.heap.size 2 A 8 (rowsV2 (tcL ps k))) => l6Number_any 1 4 A 8 c (dsOf (tcL ps k)) (cntP m) w td1 td2 td3 td4 td5 FIT.out (by rw [tdr]; exact h))
    rw [hst] at HLN
    have HPW := Lib.hid (fun (w : World) => l2Power_any (m.a + m.b) (m.a + m.b).toNat w hcd1 hcd2)
    have hKe : m.c * pw (m.a + m.b).toNat = cntP m := rfl
    obtain ⟨q, hq⟩ : ∃ o9, addNst (tcL ps k) (cntP m) = o9 := ⟨_, rfl⟩
    obtain ⟨P, hP⟩ : ∃ o9, pw (m.a + m.b).toNat = o9 := ⟨_, rfl⟩
    obtain ⟨K, hK⟩ : ∃ o9, cntP m = o9 := ⟨_, rfl⟩
    rw [hq] at HCO HLN hA1 hL1 hl9 hta1
    rw [hP] at HPW hKe
    rw [hK] at HCO HLN hKe hcd3 hcd4
    unfold RetV at HCO
    unfold RetMF at HLN
    rw [hl9] at HLN
    have HA1 := Lib.hid hA1
    have HL1 := Lib.hid hL1
    obtain ⟨Tk, hTk⟩ : ∃ o9, tcA ps k = o9 := ⟨_, rfl⟩
    rw [hTk] at hta1 hta0 HA1 ⊢
    obtain ⟨bp, op, hAp, hbp, c0, c1, c2⟩ := rows_at3 (Reads.of_own HP.out) hm
    subst hAp
    have k1 : (k : Int) < (n : Int) := by omega
    have k0 : (0 : Int) ≤ (k : Int) := by omega
    have w1 : wrap64 (m.a + m.b) = m.a + m.b := by unfold wrap64; omega
    have w2 : IntKind.i64.wrap (m.a + m.b) = m.a + m.b := by rw [IntKind.wrap_i64]; omega
    have w3 : wrap64 K = K := by unfold wrap64; omega
    have w4 : IntKind.i64.wrap K = K := by rw [IntKind.wrap_i64]; omega
    clear hm hq hK hP hA1 hL1 hTk hg hadd hok hst hcd1 hcd2 tdF tdr td1 td2 td3 td4 td5
    go_wp2_with fail
    (refine wp_region_later (by kernel_rfl) (by kernel_rfl) ?_; (repeat (go_big_quiet_step ((go_at_call 31; exact Calls.later_same (HPW.out _))))); refine wpQuiet_nil ?_; intro wq hw1; obtain ⟨⟨wl, hb⟩, hw1'⟩ := hw1; simp only at hw1'; subst hw1')
    have BF1 := Lib.hid (BF.out.ext hb)
    have HO1 := Lib.hid (own_ext HO.out hb)
    have HP1 := Lib.hid (own_ext HP.out hb)
    have HX1 := Lib.hid (ext_trans HX.out hb)
    clear hb c0 c1 c2 hbp BF HO HP HX
    obtain ⟨m0, m1, m2⟩ := BF1.out.q3
    have lm := BF1.out.lt
    go_wp2_with fail
    refine (HCO.out _ (Reads.of_own HO1.out)).mono ?_
    rintro e w4' ⟨rfl, hb⟩
    have BF2 := Lib.hid (BF1.out.ext hb)
    have HO2 := Lib.hid (own_ext HO1.out hb)
    have HP2 := Lib.hid (own_ext HP1.out hb)
    have HX2 := Lib.hid (ext_trans HX1.out hb)
    clear hb m0 m1 m2 lm BF1 HO1 HP1 HX1
    obtain ⟨m0, m1, m2⟩ := BF2.out.q3
    have lm := BF2.out.lt
    have hw1 : wrap64 (Tk + q.ask) = Tk + q.ask := by unfold wrap64; omega
    have hw2 : IntKind.i64.wrap (Tk + q.ask) = Tk + q.ask := by rw [IntKind.wrap_i64]; omega
    go_wp2_with fail
    refine (HLN.out _ (Reads.of_own HO2.out)).mono ?_
    rintro e w5 ⟨Am, cm, hh, cr, rfl, hom, hor, hb⟩
    obtain ⟨NX, hNX⟩ : ∃ N, N = w5.heap.size := ⟨_, rfl⟩
    obtain ⟨w6, hw6⟩ : ∃ y9 : World, y9 = w5.alloc (.cells #[.int .i64 1, .int .i64 4, .slice (some ⟨hh, 0, none⟩) 8 cr] 42) := ⟨_, rfl⟩
    have hs2 := HX2.out.size
    have BX6 := Lib.hid (show Blk w6 NX 42 #[.int .i64 1, .int .i64 4, .slice (some ⟨hh, 0, none⟩) 8 cr] by rw [hw6]; exact Blk.born w5 _ 42 (H := NX) hNX)
    have BF6 := Lib.hid (show Blk w6 NF 42 #[.int .i64 1, .int .i64 4, .slice A 8 c] by rw [hw6]; exact (BF2.out.ext hb).al _)
    have HR6 := Lib.hid (show w6.ownsRow w.heap.size 54 2 (.slice (some ⟨hh, 0, none⟩) 8 cr) 8 (rowsV2 (rodsD q.ds)) by rw [hw6]; exact (own_base hor hs2).alloc _)
    have HP6 := Lib.hid (show w6.ownsRow w.heap.size 51 3 (.slice (some ⟨bp, op, none⟩) n cp) n (rowsV3 ps) by rw [hw6]; exact (own_ext HP2.out hb).alloc _)
    have HX6 := Lib.hid (show Below w.heap.size w w6 by rw [hw6]; exact ext_alloc (ext_trans HX2.out hb) _)
    go_upto_region 11 with fail
    rw [show w5.heap.size = NX from hNX.symm, ← hw6]
    clear hNX hw6 hom hor hb m0 m1 m2 lm BF2 HO2 HP2 HX2 hs2
    obtain ⟨v0, v1, v2⟩ := BX6.out.q3
    have lv := BX6.out.lt
    obtain ⟨m0, m1, m2⟩ := BF6.out.q3
    obtain ⟨z0, z1, z2⟩ := BF6.out.z3
    have lm := BF6.out.lt
    go_wp2
    go_roundw
    case rel => exact ⟨k + 1, some ⟨hh, 0, none⟩, cr, by omega, by rw [HA1.out], by go_num, Lib.hid (fr_put BF6.out), by rw [HL1.out]; exact Lib.hid (fill_own' HR6.out (own_nbT HR6.out BF6.out (by decide))), Lib.hid (fill_own' HP6.out (own_nbT HP6.out BF6.out (by decide))), Lib.hid (fill_below HX6.out hNw)⟩
    case measure => simp [intOf]; omega
  · obtain rfl : k = n := by omega
    go_wp2
    go_ret2
    exact ⟨rfl, HX.out⟩

end Go.Proofs.Ytfechhacmkajdaa
