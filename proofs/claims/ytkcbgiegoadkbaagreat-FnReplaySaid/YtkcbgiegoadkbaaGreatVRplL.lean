/- The law FnReplay, walked. -/
import Derived.Deep.CutBlock
import Derived.Test.YtkcbgiegoadkbaaGreatVRplD
import Derived.Test.YtkcbgiegoadkbaaGreatVM13
import Derived.Test.YtkcbgiegoadkbaaGreatVM12
import Derived.Test.YtkcbgiegoadkbaaGreatVM3
import Derived.Test.YtkcbgiegoadkbaaGreatVM8
import Derived.Test.YtkcbgiegoadkbaaGreatVM1
namespace Go.Proofs.YtkcbgiegoadkbaaGreat
open Go.RowKit
set_option linter.unusedVariables false
set_option linter.unusedSimpArgs false
abbrev LL8 := List (List UInt8)
theorem strz9 (x : List UInt8) : (str x).size = x.length := by rw [← bl_size, bl_str]
theorem strs_at9 {w : World} {B n : Nat} {A : Option Addr} {P : List (List UInt8)} (h : Reads w B 1 A n (strsV P)) {k : Nat} {x : List UInt8} (hx : P[k]? = some x) :
 ∃ b o, A = some ⟨b, o, none⟩ ∧ b < B ∧ w.cell? ⟨b, o + k, none⟩ = some (.string (str x)) := by
 have hk : k < P.length := (List.getElem?_eq_some_iff.1 hx).1
 have hn : P.length = n * 1 := by have := h.1; simpa [strsV] using this
 obtain ⟨b, o, hA, hb, hc⟩ := h.2 (by omega)
 exact ⟨b, o, hA, hb, hc _ _ (by simp [strsV, hx])⟩
def Frx (S g : Nat) (NB : Nat) (D P Q : Int) (l : List R5) (A : Option Addr) (c : Nat) (d p : ByteArray) (z : Int) (Dn Pn Qn : Int) (L : List R5) (pn : ByteArray) (zn : Int) (tx line : ByteArray) (bq oq j m cl : Nat) (Wl : LL8) (vs : Nat → Value) (wx : World) : Nat → Prop
 | 0 => vs 92 = conV D A l.length c P Q d p z
 | 1 => vs 93 = .slice (some ⟨bq, oq, none⟩) m cl
 | 2 => vs 94 = .int .i64 (j : Int)
 | 3 => vs 95 = .pointer (some ⟨bq, oq + j, none⟩)
 | 4 => vs 96 = .string line
 | 5 => ∃ (An : Option Addr) (cn : Nat), vs 97 = .tuple #[conV Dn An L.length cn Pn Qn d pn zn, .string tx] ∧ (wx.ownsRow S 111 5 (.slice An L.length cn) L.length (rowsV L))
 | 6 => ∃ (An : Option Addr) (cn : Nat), vs 91 = .tuple #[conV Dn An L.length cn Pn Qn d pn zn, .string tx] ∧ (wx.ownsRow S 111 5 (.slice An L.length cn) L.length (rowsV L))
 | 7 => ∃ (An : Option Addr) (cn : Nat), vs 98 = conV Dn An L.length cn Pn Qn d pn zn ∧ (wx.ownsRow S 111 5 (.slice An L.length cn) L.length (rowsV L))
 | 8 => ∃ (An : Option Addr) (cn : Nat), vs 99 = .string tx
 | 9 => ∃ (An : Option Addr) (cn : Nat), (wx.ownsRow S 111 5 (.slice An L.length cn) L.length (rowsV L)) ∧ (Blk wx NB 34 #[.int .i64 Dn, .slice An L.length cn, .int .i64 Pn, .int .i64 Qn, .string d, .string pn, .int .i64 zn]) ∧ (wx.ownsRow S 9 1 (.slice (some ⟨bq, oq, none⟩) m cl) m (strsV Wl))
 | _ => True
def FrxU : Nat → List Nat
 | 0 => [92]
 | 1 => [93]
 | 2 => [94]
 | 3 => [95]
 | 4 => [96]
 | 5 => [97]
 | 6 => [91]
 | 7 => [98]
 | 8 => [99]
 | 9 => []
 | _ => []
def FrxR (g : Nat) (NB : Nat) (D P Q : Int) (l : List R5) (A : Option Addr) (c : Nat) (d p : ByteArray) (z : Int) (Dn Pn Qn : Int) (L : List R5) (pn : ByteArray) (zn : Int) (tx line : ByteArray) (bq oq j m cl : Nat) (Wl : LL8) (i : Nat) (wx wy : World) : Prop := if i = 9 then KeepW 34 wx wy else Below wx.heap.size wx wy
theorem Frx_gr {S g : Nat} {NB : Nat} {D P Q : Int} {l : List R5} {A : Option Addr} {c : Nat} {d p : ByteArray} {z : Int} {Dn Pn Qn : Int} {L : List R5} {pn : ByteArray} {zn : Int} {tx line : ByteArray} {bq oq j m cl : Nat} {Wl : LL8} (hgS : True) {vs us : Nat → Value} {wx wy : World} {jN : Nat} (hGG : Frx S g NB D P Q l A c d p z Dn Pn Qn L pn zn tx line bq oq j m cl Wl vs wx jN) (haG : ∀ d ∈ FrxU jN, us d = vs d) (hbG : Below wx.heap.size wx wy) : Frx S g NB D P Q l A c d p z Dn Pn Qn L pn zn tx line bq oq j m cl Wl us wy jN := by
 match jN, hGG, haG with
 | 0, hGG, haG =>
   exact (haG 92 (by simp [FrxU])).trans hGG
 | 1, hGG, haG =>
   exact (haG 93 (by simp [FrxU])).trans hGG
 | 2, hGG, haG =>
   exact (haG 94 (by simp [FrxU])).trans hGG
 | 3, hGG, haG =>
   exact (haG 95 (by simp [FrxU])).trans hGG
 | 4, hGG, haG =>
   exact (haG 96 (by simp [FrxU])).trans hGG
 | 5, hGG, haG =>
   obtain ⟨xG0, xG1, eG, fG0⟩ := hGG
   exact ⟨xG0, xG1, (haG 97 (by simp [FrxU])).trans eG, own_ext fG0 hbG⟩
 | 6, hGG, haG =>
   obtain ⟨xG0, xG1, eG, fG0⟩ := hGG
   exact ⟨xG0, xG1, (haG 91 (by simp [FrxU])).trans eG, own_ext fG0 hbG⟩
 | 7, hGG, haG =>
   obtain ⟨xG0, xG1, eG, fG0⟩ := hGG
   exact ⟨xG0, xG1, (haG 98 (by simp [FrxU])).trans eG, own_ext fG0 hbG⟩
 | 8, hGG, haG =>
   obtain ⟨xG0, xG1, eG⟩ := hGG
   exact ⟨xG0, xG1, (haG 99 (by simp [FrxU])).trans eG⟩
 | 9, hGG, haG =>
   obtain ⟨xG0, xG1, fG0, fG1, fG2⟩ := hGG
   exact ⟨xG0, xG1, own_ext fG0 hbG, fG1.ext hbG, own_ext fG2 hbG⟩
 | jN + 10, _, _ => trivial
theorem Frx_9 {S g : Nat} {NB : Nat} {D P Q : Int} {l : List R5} {A : Option Addr} {c : Nat} {d p : ByteArray} {z : Int} {Dn Pn Qn : Int} {L : List R5} {pn : ByteArray} {zn : Int} {tx line : ByteArray} {bq oq j m cl : Nat} {Wl : LL8} (hgS : True) {vs us : Nat → Value} {wx wy : World} {jN : Nat} (hneG : jN ≠ 9) (hGG : Frx S g NB D P Q l A c d p z Dn Pn Qn L pn zn tx line bq oq j m cl Wl vs wx jN) (haG : ∀ d ∈ FrxU jN, us d = vs d) (hbG : KeepW 34 wx wy) : Frx S g NB D P Q l A c d p z Dn Pn Qn L pn zn tx line bq oq j m cl Wl us wy jN := by
 match jN, hGG, haG, hneG with
 | 0, hGG, haG, hneG =>
   exact (haG 92 (by simp [FrxU])).trans hGG
 | 1, hGG, haG, hneG =>
   exact (haG 93 (by simp [FrxU])).trans hGG
 | 2, hGG, haG, hneG =>
   exact (haG 94 (by simp [FrxU])).trans hGG
 | 3, hGG, haG, hneG =>
   exact (haG 95 (by simp [FrxU])).trans hGG
 | 4, hGG, haG, hneG =>
   exact (haG 96 (by simp [FrxU])).trans hGG
 | 5, hGG, haG, hneG =>
   obtain ⟨xG0, xG1, eG, fG0⟩ := hGG
   exact ⟨xG0, xG1, (haG 97 (by simp [FrxU])).trans eG, hbG.own fG0 (by decide)⟩
 | 6, hGG, haG, hneG =>
   obtain ⟨xG0, xG1, eG, fG0⟩ := hGG
   exact ⟨xG0, xG1, (haG 91 (by simp [FrxU])).trans eG, hbG.own fG0 (by decide)⟩
 | 7, hGG, haG, hneG =>
   obtain ⟨xG0, xG1, eG, fG0⟩ := hGG
   exact ⟨xG0, xG1, (haG 98 (by simp [FrxU])).trans eG, hbG.own fG0 (by decide)⟩
 | 8, hGG, haG, hneG =>
   obtain ⟨xG0, xG1, eG⟩ := hGG
   exact ⟨xG0, xG1, (haG 99 (by simp [FrxU])).trans eG⟩
 | 9, hGG, haG, hneG =>
   exact absurd rfl hneG
 | jN + 10, _, _, _ => trivial
def FrxP (j i : Nat) : Bool := false
theorem Frx_keep {S g : Nat} {NB : Nat} {D P Q : Int} {l : List R5} {A : Option Addr} {c : Nat} {d p : ByteArray} {z : Int} {Dn Pn Qn : Int} {L : List R5} {pn : ByteArray} {zn : Int} {tx line : ByteArray} {bq oq j m cl : Nat} {Wl : LL8} (hgS : True) {vs us : Nat → Value} {wx wy : World} {iN jN : Nat} (hneG : iN ≠ jN) (hdpG : FrxP jN iN = false) (hGG : Frx S g NB D P Q l A c d p z Dn Pn Qn L pn zn tx line bq oq j m cl Wl vs wx jN) (haG : ∀ d ∈ FrxU jN, us d = vs d) (hbG : FrxR g NB D P Q l A c d p z Dn Pn Qn L pn zn tx line bq oq j m cl Wl iN wx wy) : Frx S g NB D P Q l A c d p z Dn Pn Qn L pn zn tx line bq oq j m cl Wl us wy jN := by
 unfold FrxR at hbG
 by_cases h9 : iN = 9
 · rw [if_pos h9] at hbG
   exact Frx_9 hgS (by omega) hGG haG hbG
 rw [if_neg h9] at hbG
 exact Frx_gr hgS hGG haG hbG
set_option maxRecDepth 100000 in
set_option maxHeartbeats 8000000 in
theorem law_FnReplay (A : Option Addr) (n c : Nat) (w : World) (h : Code w w.heap.size A n) (hn63 : n ≤ maxLen) :
 Calls Tryz.prog 3 #[.slice A n c] w fun e w' => e = .returned (.bool true) ∧ Below w.heap.size w w' := by
 have HV := Lib.hid (fun w => vBig_any A n c w)
 by_cases hbig : (65536 : Int) < n
 · rw [decide_eq_true hbig] at HV
   go_enter Tryz.func3, Tryz.ntmps3
   go_wp2_with (go_at_call 4; refine (HV.out _).mono ?_; rintro e w' ⟨rfl, hb⟩)
   go_ret
   exact ⟨rfl, (by repeat (first | exact ext_refl _ | assumption | refine ext_alloc ?_ _ | refine ext_drew ?_ | refine ext_drewN ?_ _ | refine ext_set ?_ (by simp <;> omega) _ | refine ext_trans ?_ (by assumption)))⟩
 · rw [decide_eq_false hbig] at HV
   have hn : n ≤ 65536 := by omega
   have H := Lib.hid h
   clear h hbig hn63
   go_enter Tryz.func3, Tryz.ntmps3
   go_wp2_with fail
   refine (HV.out _).mono ?_
   rintro e w1 ⟨rfl, hb⟩
   have s1 : w.heap.size ≤ w1.heap.size := (by have := hb.size; (try simp at this); omega)
   have b1 := Lib.hid (ext_trans (ext_refl w) hb)
   have t1 : w.heap.size ≤ w1.heap.size := b1.out.size
   clear hb
   go_wp2_with fail
   refine (drawReplay_any A n c _ ((H.out.below b1.out).more b1.out.size) hn).mono ?_
   rintro e w2 ⟨day, d0, p0, z0, rfl, hd0, hp0, hb⟩
   have s2 : w1.heap.size ≤ w2.heap.size := (by have := hb.size; (try simp at this); omega)
   have b2 := Lib.hid (ext_trans b1.out hb)
   have t2 : w.heap.size ≤ w2.heap.size := b2.out.size
   clear hb
   have HB := Lib.hid (fun (w : World) => implRpl_any day d0 p0 z0 w (by omega) (by omega))
   have HA := Lib.hid (fun (w : World) => specRpl_any day d0 p0 z0 w (by omega) (by omega))
   unfold RetRpl at HA HB
   obtain ⟨n0, hn0⟩ : ∃ o9, rplN day d0 p0 z0 = o9 := ⟨_, rfl⟩
   obtain ⟨ok0, hok0⟩ : ∃ o9, rplB day d0 p0 z0 = o9 := ⟨_, rfl⟩
   rw [hn0, hok0] at HA HB
   have k1 : ((n0 : Int) != (n0 : Int)) = false := by simp
   have k2 : (ok0 != ok0) = false := by cases ok0 <;> rfl
   clear hn0 hok0
   go_wp2_with fail
   refine (HB.out _).mono ?_
   rintro e w3 ⟨rfl, hb⟩
   have s3 : w2.heap.size + 1 ≤ w3.heap.size := (by have := hb.size; (try simp at this); omega)
   have z3_0 : w2.heap.size < w3.heap.size := (by omega)
   have q3_0 : w3.cell? ⟨w2.heap.size, 0, none⟩ = some (.string d0) := ext_cell hb (by simp [go_sem])
   have q3_1 : w3.cell? ⟨w2.heap.size, 1, none⟩ = some (.string p0) := ext_cell hb (by simp [go_sem])
   have q3_2 : w3.cell? ⟨w2.heap.size, 2, none⟩ = some (.int .i64 z0) := ext_cell hb (by simp [go_sem])
   have b3 := Lib.hid (ext_trans (ext_alloc b2.out _) hb)
   have t3 : w.heap.size ≤ w3.heap.size := b3.out.size
   clear hb
   go_wp2_with fail
   refine (HA.out _).mono ?_
   rintro e w4 ⟨rfl, hb⟩
   have s4 : w3.heap.size ≤ w4.heap.size := (by have := hb.size; (try simp at this); omega)
   have z4_0 : w2.heap.size < w4.heap.size := (by omega)
   have q4_0 : w4.cell? ⟨w2.heap.size, 0, none⟩ = some (.string d0) := ext_cell hb q3_0
   have q4_1 : w4.cell? ⟨w2.heap.size, 1, none⟩ = some (.string p0) := ext_cell hb q3_1
   have q4_2 : w4.cell? ⟨w2.heap.size, 2, none⟩ = some (.int .i64 z0) := ext_cell hb q3_2
   have b4 := Lib.hid (ext_trans b3.out hb)
   have t4 : w.heap.size ≤ w4.heap.size := b4.out.size
   clear q3_0 q3_1 q3_2
   clear hb
   go_wp2_with fail
   refine (drawScript_any A n c _ ((H.out.below b4.out).more b4.out.size) hn).mono ?_
   rintro e w5 ⟨Ds, Ps, Qs, ls, As, cs, ds, ps, zs, tx, rfl, hls, hdps, htx, ho9, hb⟩
   have s5 : w4.heap.size ≤ w5.heap.size := (by have := hb.size; (try simp at this); omega)
   have b5 := Lib.hid (ext_trans b4.out hb)
   have t5 : w.heap.size ≤ w5.heap.size := b5.out.size
   clear hb
   clear ho9 HA HB k1 k2
   have HNB := Lib.hid (fun (w : World) => implNewConsole_any day w)
   have HNA := Lib.hid (fun (w : World) => specNewConsole_any day w)
   unfold RetConB at HNA HNB
   obtain ⟨D7, hD7⟩ : ∃ o9, newD day = o9 := ⟨_, rfl⟩
   obtain ⟨ok, hok⟩ : ∃ o9, inB day 0 4000 = o9 := ⟨_, rfl⟩
   rw [hD7, hok] at HNA HNB
   have HD7 := Lib.hid hD7
   have HOK := Lib.hid hok
   have k1 : (ok != ok) = false := by cases ok <;> rfl
   clear hD7 hok
   have HX0 := Lib.hid (ext_alloc b5.out (.cells #[.int .i64 Ds, .slice As ls.length cs, .int .i64 Ps, .int .i64 Qs, .string ds, .string ps, .int .i64 zs] 34))
   have hs0 := HX0.out.size
   go_wp2_with fail
   refine (HNB.out _).mono ?_
   rintro e v1 ⟨Ab, cb, rfl, hob, hb⟩
   obtain ⟨NB, hNB⟩ : ∃ N, N = v1.heap.size := ⟨_, rfl⟩
   obtain ⟨V1, hV1⟩ : ∃ y9 : World, y9 = v1.alloc (.cells #[.int .i64 D7, .slice Ab 0 cb, .int .i64 0, .int .i64 0, .string ⟨#[]⟩, .string ⟨#[]⟩, .int .i64 0] 34) := ⟨_, rfl⟩
   have hst : w.heap.size ≤ NB := by have := hb.size; have := hs0; (try simp at *); omega
   have HX1 := Lib.hid (show Below w.heap.size w V1 by rw [hV1]; exact ext_alloc (ext_trans HX0.out hb) _)
   have BB1 := Lib.hid (show Blk V1 NB 34 #[.int .i64 D7, .slice Ab 0 cb, .int .i64 0, .int .i64 0, .string ⟨#[]⟩, .string ⟨#[]⟩, .int .i64 0] by rw [hV1]; exact Blk.born v1 _ 34 (H := NB) hNB)
   have HO1 := Lib.hid (show V1.ownsRow w.heap.size 111 5 (.slice Ab 0 cb) 0 (rowsV []) by rw [hV1]; exact (own_base hob hs0).alloc _)
   go_upto_region 10 with fail
   rw [← hNB, ← hV1]
   clear hNB hV1 hob hb hs0 HX0
   go_wp2_with fail
   refine (HNA.out _).mono ?_
   rintro e v2 ⟨Aa, ca, rfl, hoa, hb⟩
   obtain ⟨NA, hNA⟩ : ∃ N, N = v2.heap.size := ⟨_, rfl⟩
   obtain ⟨V2, hV2⟩ : ∃ y9 : World, y9 = v2.alloc (.cells #[.int .i64 D7, .slice Aa 0 ca, .int .i64 0, .int .i64 0, .string ⟨#[]⟩, .string ⟨#[]⟩, .int .i64 0] 34) := ⟨_, rfl⟩
   have hs1 := HX1.out.size
   have HX2 := Lib.hid (show Below w.heap.size w V2 by rw [hV2]; exact ext_alloc (ext_trans HX1.out hb) _)
   have BB2 := Lib.hid (show Blk V2 NB 34 #[.int .i64 D7, .slice Ab 0 cb, .int .i64 0, .int .i64 0, .string ⟨#[]⟩, .string ⟨#[]⟩, .int .i64 0] by rw [hV2]; exact (BB1.out.ext hb).al _)
   have BA2 := Lib.hid (show Blk V2 NA 34 #[.int .i64 D7, .slice Aa 0 ca, .int .i64 0, .int .i64 0, .string ⟨#[]⟩, .string ⟨#[]⟩, .int .i64 0] by rw [hV2]; exact Blk.born v2 _ 34 (H := NA) hNA)
   have HO2 := Lib.hid (show V2.ownsRow w.heap.size 111 5 (.slice Ab 0 cb) 0 (rowsV []) by rw [hV2]; exact (own_ext HO1.out hb).alloc _)
   have HA2 := Lib.hid (show V2.ownsRow w.heap.size 111 5 (.slice Aa 0 ca) 0 (rowsV []) by rw [hV2]; exact (own_base hoa hs1).alloc _)
   go_upto_region 11 with fail
   rw [← hNA, ← hV2]
   clear hNA hV2 hoa hb hs1 HX1 BB1 HO1
   obtain ⟨x0, x1, x2, x3, x4, x5, x6⟩ := BB2.out.q7
   obtain ⟨y0, y1, y2, y3, y4, y5, y6⟩ := BA2.out.q7
   have lx := BB2.out.lt
   have ly := BA2.out.lt
   go_wp2_with fail
   refine (vConsole_same D7 0 0 ⟨#[]⟩ ⟨#[]⟩ 0 Ab Aa 0 cb ca [] _ (by omega) (Reads.of_own HO2.out) (Reads.of_own HA2.out)).mono ?_
   rintro e V3 ⟨rfl, hb⟩
   have HX3 := Lib.hid (ext_trans HX2.out hb)
   have BB3 := Lib.hid (BB2.out.ext hb)
   have HO3 := Lib.hid (own_ext HO2.out hb)
   clear hb x0 x1 x2 x3 x4 x5 x6 y0 y1 y2 y3 y4 y5 y6 lx ly HX2 BB2 BA2 HO2 HA2
   cases ok
   · go_wp2
     go_ret
     exact ⟨rfl, HX3.out⟩
   have HCM := Lib.hid (came0 HOK.out)
   have hnd : D7 = day := by rw [← HD7.out]; unfold newD; rw [if_pos HOK.out]
   subst hnd
   have HSP := Lib.hid (fun (w : World) => splitString_any tx w (by omega))
   have hWm := fun x hx => splitL_mem 10 (bl tx) x hx
   have hm9 : (splitL 10 (bl tx)).length ≤ 401 := by
    rw [splitL_len]
    have h1 := List.count_le_length (a := (10 : UInt8)) (l := bl tx)
    rw [bl_size] at h1
    omega
   obtain ⟨Wl, hWl⟩ : ∃ o9, splitL 10 (bl tx) = o9 := ⟨_, rfl⟩
   rw [hWl] at HSP hWm hm9
   obtain ⟨m, hm⟩ : ∃ o9, Wl.length = o9 := ⟨_, rfl⟩
   rw [hm] at HSP hm9
   unfold RetSliceB at HSP
   have HWM := Lib.hid hWm
   have HM := Lib.hid hm
   have htz : (bl tx).length ≤ 400 := by rw [bl_size]; exact htx
   clear hWm hWl hm HNB HNA
   go_wp2_with fail
   refine (HSP.out _).mono ?_
   rintro e V4 ⟨Al, cl, rfl, hol, hb⟩
   have hs3 := HX3.out.size
   have HX4 := Lib.hid (ext_trans HX3.out hb)
   have BB4 := Lib.hid (BB3.out.ext hb)
   have HO4 := Lib.hid (own_ext HO3.out hb)
   have HL4 := Lib.hid (own_base (base' := w.heap.size) hol hs3)
   clear hb hol hs3 HX3 BB3 HO3
   go_wp2_with fail
   go_loopw [17] (fun ii wr => ∃ (j : Nat) (D P Q : Int) (l : List R5) (A : Option Addr) (c : Nat) (d p : ByteArray) (z : Int), ii = .int .i64 (j : Int) ∧ j ≤ m ∧ Hid (Came D7 ((D, l, P, Q), d, p, z)) ∧ Hid (Blk wr NB 34 #[.int .i64 D, .slice A l.length c, .int .i64 P, .int .i64 Q, .string d, .string p, .int .i64 z]) ∧ Hid (wr.ownsRow w.heap.size 111 5 (.slice A l.length c) l.length (rowsV l)) ∧ Hid (wr.ownsRow w.heap.size 9 1 (.slice Al m cl) m (strsV Wl)) ∧ Hid (Below w.heap.size w wr)) (fun ii _ => m - (intOf ii).toNat)
   case atStart => exact ⟨0, D7, 0, 0, [], Ab, cb, ⟨#[]⟩, ⟨#[]⟩, 0, rfl, Nat.zero_le _, HCM, BB4, HO4, HL4, HX4⟩
   case round =>
    clear BB4 HO4 HL4 HX4 HCM
    obtain ⟨j, D, P, Q, l, A, c, d, p, z, rfl, hj, HCM, BB, HO, HLN, HX⟩ := hrel
    obtain ⟨W, hW⟩ : ∃ y : World, y = wr := ⟨_, rfl⟩
    subst hW
    obtain ⟨hsq, hlb⟩ := conQ_parts HCM.out.ok
    have hl8 : l.length ≤ 8 := schB_len hsq
    have hlz := logB_size hlb
    obtain ⟨m0, m1, m2, m3, m4, m5, m6⟩ := BB.out.q7
    have lm := BB.out.lt
    by_cases hlt : j < m
    · obtain ⟨x, hx⟩ := list_split (l := Wl) (k := j) (by rw [HM.out]; exact hlt)
      obtain ⟨bq, oq, hA, hbq, c0⟩ := strs_at9 (Reads.of_own HLN.out) hx
      subst hA
      have e2 : (j : Int) < (m : Int) := by omega
      have hxs := HWM.out x (List.mem_of_getElem? hx)
      obtain ⟨line, hline⟩ : ∃ o9, str x = o9 := ⟨_, rfl⟩
      rw [hline] at c0
      have hlsz : line.size ≤ 400 := by rw [← hline, strz9]; omega
      have hsl := slOk_own HO.out
      have HEX := Lib.hid (fun (w : World) h => implEx_any D P Q d p z A l.length c l line w (by omega) (by omega) (by omega) (by omega) hsl h)
      have hcs := came_step HCM.out line
      obtain ⟨Q9, hQ9⟩ : ∃ o9, exQ (D, l, P, Q) d p z line = o9 := ⟨_, rfl⟩
      obtain ⟨pn, hpn⟩ : ∃ o9, exP (D, l, P, Q) d p z line = o9 := ⟨_, rfl⟩
      obtain ⟨zn, hzn⟩ : ∃ o9, exZ (D, l, P, Q) d p z line = o9 := ⟨_, rfl⟩
      obtain ⟨tx2, htx2⟩ : ∃ o9, exT (D, l, P, Q) d p z line = o9 := ⟨_, rfl⟩
      have hcs : Came D7 (exQ (D, l, P, Q) d p z line, d, exP (D, l, P, Q) d p z line, exZ (D, l, P, Q) d p z line) := hcs
      rw [hQ9, hpn, hzn] at hcs
      rw [hQ9, hpn, hzn, htx2] at HEX
      obtain ⟨Dn, L, Pn, Qn⟩ := Q9
      unfold RetEx at HEX
      dsimp only at HEX
      have HCS := Lib.hid hcs
      have hwB : w.heap.size ≤ NB := hst
      clear hx hcs hQ9 hpn hzn htx2 hline hxs hsq hlb hsl
      go_upto_region 19 with fail
      -- E0
      refine wp_region_m (by kernel_rfl) (by kernel_rfl) [91, 92, 93, 94, 95, 96, 97, 98, 99] FrxU (by kernel_rfl) (by decide) 100 (by kernel_rfl) (by simp) (fun ra0 => ra0.eval (.tmp 11) = .pointer (some ⟨NB, 0, none⟩) ∧ ra0.eval (.tmp 15) = .slice (some ⟨bq, oq, none⟩) m cl ∧ ra0.eval (.tmp 17) = .int .i64 (j : Int)) ⟨by kernel_rfl, by kernel_rfl, by kernel_rfl⟩ FrxP (by kernel_rfl) (IExt w W 9 9 (fun wx => Blk wx NB 34 #[.int .i64 D, .slice A l.length c, .int .i64 P, .int .i64 Q, .string d, .string p, .int .i64 z])) (FrxR 0 NB D P Q l A c d p z Dn Pn Qn L pn zn tx2 line bq oq j m cl Wl) (fun jN vs wx => Frx w.heap.size 0 NB D P Q l A c d p z Dn Pn Qn L pn zn tx2 line bq oq j m cl Wl vs wx jN) ⟨(HX.out).drew, Nat.le_refl _, fun _ => (ext_refl _).drew, fun _ => BB.out⟩ (fun _ _ _ _ _ _ h0 hd h1 h2 h3 => Frx_keep trivial h0 hd h1 h2 h3) ?_ ?_
      · intro ra0 hE ri ro ho Qx vs wx rb KX kk rL hI hkk hnl hLt hcl hdep rb0 rbk HK
        repeat (rename_i hz9; clear hz9)
        obtain ⟨rq11, rq15, rq17⟩ := hE
        have hi : ri < 10 := by
         rcases Nat.lt_or_ge ri 10 with h | h
         · exact h
         · rw [Array.getElem?_eq_none (by simpa using h)] at ho; cases ho
        have hkk : kk < 10 := by simpa using hkk
        obtain ⟨hGw, hsz, hpre, hBx⟩ := hI
        have HQ : ∀ w', Below wx.heap.size wx w' → IExt w W 9 9 (fun wx => Blk wx NB 34 #[.int .i64 D, .slice A l.length c, .int .i64 P, .int .i64 Q, .string d, .string p, .int .i64 z]) (kk + 1) (fun j => j = ri ∨ rL j) w' := fun w' h3 => ⟨ext_trans hGw h3, Nat.le_trans hsz h3.size, fun hn => ext_trans (hpre (fun x => hn (.inr x))) h3, fun hn => (fun hB => hB.ext h3) (hBx (fun x => hn (.inr x)))⟩
        have HQX := Lib.hid HQ
        have HGW := Lib.hid hGw
        have HPRE := Lib.hid hpre
        have HBX := Lib.hid hBx
        have HCL := Lib.hid hcl
        clear HQ hGw hpre hBx hcl
        rcases (show ri = 0 ∨ ri = 1 ∨ ri = 2 ∨ ri = 3 ∨ ri = 4 ∨ ri = 5 ∨ ri = 6 ∨ ri = 7 ∨ ri = 8 ∨ ri = 9 by omega) with rfl | rfl | rfl | rfl | rfl | rfl | rfl | rfl | rfl | rfl
        · simp only [List.getElem?_toArray, List.getElem?_cons_succ, List.getElem?_cons_zero, Option.some.injEq] at ho
          subst ho
          have HKX := Lib.hid HK
          clear HK
          have p11 := (rb0 11 (by decide)).trans rq11
          have hNL : ¬ rL 9 := fun h => hnl (HCL.out 5 _ 0 rfl (HCL.out 6 _ 5 rfl (HCL.out 7 _ 6 rfl (HCL.out 9 _ 7 rfl h (by kernel_rfl)) (by kernel_rfl)) (by kernel_rfl)) (by kernel_rfl))
          have HGP := Lib.hid (HPRE.out hNL)
          obtain ⟨x0, x1, x2, x3, x4, x5, x6⟩ := (BB.out.ext HGP.out).q7
          have lnx := (BB.out.ext HGP.out).lt
          have u0 := ext_cell HGP.out c0
          have lbq := Nat.lt_of_lt_of_le hbq HGP.out.size
          clear rb0 rbk hdep
          go_simp
          exact HKX.out _ _ (HQX.out _ (ext_refl _)) (by unfold FrxR; rw [if_neg (by decide)]; exact ext_refl _) (upd_same _ _ _)
        · simp only [List.getElem?_toArray, List.getElem?_cons_succ, List.getElem?_cons_zero, Option.some.injEq] at ho
          subst ho
          have HKX := Lib.hid HK
          clear HK
          have p15 := (rb0 15 (by decide)).trans rq15
          clear rb0 rbk hdep
          go_simp
          exact HKX.out _ _ (HQX.out _ (ext_refl _)) (by unfold FrxR; rw [if_neg (by decide)]; exact ext_refl _) (upd_same _ _ _)
        · simp only [List.getElem?_toArray, List.getElem?_cons_succ, List.getElem?_cons_zero, Option.some.injEq] at ho
          subst ho
          have HKX := Lib.hid HK
          clear HK
          have p17 := (rb0 17 (by decide)).trans rq17
          clear rb0 rbk hdep
          go_simp
          exact HKX.out _ _ (HQX.out _ (ext_refl _)) (by unfold FrxR; rw [if_neg (by decide)]; exact ext_refl _) (upd_same _ _ _)
        · simp only [List.getElem?_toArray, List.getElem?_cons_succ, List.getElem?_cons_zero, Option.some.injEq] at ho
          subst ho
          have HKX := Lib.hid HK
          clear HK
          have e1 : vs 93 = .slice (some ⟨bq, oq, none⟩) m cl := (hdep 1 (by kernel_rfl)).2
          have rr1 := (rbk 93 (by decide)).trans e1
          have E1 := Lib.hid e1
          clear e1
          have e2 : vs 94 = .int .i64 (j : Int) := (hdep 2 (by kernel_rfl)).2
          have rr2 := (rbk 94 (by decide)).trans e2
          have E2 := Lib.hid e2
          clear e2
          clear rb0 rbk hdep
          go_simp
          exact HKX.out _ _ (HQX.out _ (ext_refl _)) (by unfold FrxR; rw [if_neg (by decide)]; exact ext_refl _) (upd_same _ _ _)
        · simp only [List.getElem?_toArray, List.getElem?_cons_succ, List.getElem?_cons_zero, Option.some.injEq] at ho
          subst ho
          have HKX := Lib.hid HK
          clear HK
          have e3 : vs 95 = .pointer (some ⟨bq, oq + j, none⟩) := (hdep 3 (by kernel_rfl)).2
          have rr3 := (rbk 95 (by decide)).trans e3
          have E3 := Lib.hid e3
          clear e3
          have p15 := (rb0 15 (by decide)).trans rq15
          have hNL : ¬ rL 9 := fun h => hnl (HCL.out 5 _ 4 rfl (HCL.out 6 _ 5 rfl (HCL.out 7 _ 6 rfl (HCL.out 9 _ 7 rfl h (by kernel_rfl)) (by kernel_rfl)) (by kernel_rfl)) (by kernel_rfl))
          have HGP := Lib.hid (HPRE.out hNL)
          obtain ⟨x0, x1, x2, x3, x4, x5, x6⟩ := (BB.out.ext HGP.out).q7
          have lnx := (BB.out.ext HGP.out).lt
          have u0 := ext_cell HGP.out c0
          have lbq := Nat.lt_of_lt_of_le hbq HGP.out.size
          clear rb0 rbk hdep
          go_simp
          exact HKX.out _ _ (HQX.out _ (ext_refl _)) (by unfold FrxR; rw [if_neg (by decide)]; exact ext_refl _) (upd_same _ _ _)
        · simp only [List.getElem?_toArray, List.getElem?_cons_succ, List.getElem?_cons_zero, Option.some.injEq] at ho
          subst ho
          have HKX := Lib.hid HK
          clear HK
          have e0 : vs 92 = conV D A l.length c P Q d p z := (hdep 0 (by kernel_rfl)).2
          have rr0 := (rbk 92 (by decide)).trans e0
          have E0 := Lib.hid e0
          clear e0
          have e4 : vs 96 = .string line := (hdep 4 (by kernel_rfl)).2
          have rr4 := (rbk 96 (by decide)).trans e4
          have E4 := Lib.hid e4
          clear e4
          have hNL : ¬ rL 9 := fun h => hnl (HCL.out 6 _ 5 rfl (HCL.out 7 _ 6 rfl (HCL.out 9 _ 7 rfl h (by kernel_rfl)) (by kernel_rfl)) (by kernel_rfl))
          have HGP := Lib.hid (HPRE.out hNL)
          obtain ⟨x0, x1, x2, x3, x4, x5, x6⟩ := (BB.out.ext HGP.out).q7
          have lnx := (BB.out.ext HGP.out).lt
          have u0 := ext_cell HGP.out c0
          have lbq := Nat.lt_of_lt_of_le hbq HGP.out.size
          clear rb0 rbk hdep
          go_simp
          refine (HEX.out _ (Reads.of_own (own_ext HO.out HGP.out))).mono ?_
          rintro e w' ⟨An, cn, rfl, ho6, hb⟩
          have hsx := HGW.out.size
          go_simp
          exact HKX.out _ _ (HQX.out _ hb) (by unfold FrxR; rw [if_neg (by decide)]; exact hb) (⟨An, cn, upd_same _ _ _, own_base ho6 hsx⟩)
        · simp only [List.getElem?_toArray, List.getElem?_cons_succ, List.getElem?_cons_zero, Option.some.injEq] at ho
          subst ho
          have HKX := Lib.hid HK
          clear HK
          obtain ⟨An, cn, e5, k5_0⟩ := (hdep 5 (by kernel_rfl)).2
          have rr5 := (rbk 97 (by decide)).trans e5
          have E5 := Lib.hid e5
          clear e5
          have K5_0 := Lib.hid k5_0
          clear k5_0
          clear rb0 rbk hdep
          go_simp
          exact HKX.out _ _ (HQX.out _ (ext_refl _)) (by unfold FrxR; rw [if_neg (by decide)]; exact ext_refl _) (⟨An, cn, upd_same _ _ _, K5_0.out⟩)
        · simp only [List.getElem?_toArray, List.getElem?_cons_succ, List.getElem?_cons_zero, Option.some.injEq] at ho
          subst ho
          have HKX := Lib.hid HK
          clear HK
          obtain ⟨An, cn, e6, k6_0⟩ := (hdep 6 (by kernel_rfl)).2
          have rr6 := (rbk 91 (by decide)).trans e6
          have E6 := Lib.hid e6
          clear e6
          have K6_0 := Lib.hid k6_0
          clear k6_0
          clear rb0 rbk hdep
          go_simp
          exact HKX.out _ _ (HQX.out _ (ext_refl _)) (by unfold FrxR; rw [if_neg (by decide)]; exact ext_refl _) (⟨An, cn, upd_same _ _ _, K6_0.out⟩)
        · simp only [List.getElem?_toArray, List.getElem?_cons_succ, List.getElem?_cons_zero, Option.some.injEq] at ho
          subst ho
          have HKX := Lib.hid HK
          clear HK
          obtain ⟨An, cn, e6, k6_0⟩ := (hdep 6 (by kernel_rfl)).2
          have rr6 := (rbk 91 (by decide)).trans e6
          have E6 := Lib.hid e6
          clear e6
          have K6_0 := Lib.hid k6_0
          clear k6_0
          clear rb0 rbk hdep
          go_simp
          exact HKX.out _ _ (HQX.out _ (ext_refl _)) (by unfold FrxR; rw [if_neg (by decide)]; exact ext_refl _) (⟨An, cn, upd_same _ _ _⟩)
        · simp only [List.getElem?_toArray, List.getElem?_cons_succ, List.getElem?_cons_zero, Option.some.injEq] at ho
          subst ho
          have HKX := Lib.hid HK
          clear HK
          obtain ⟨An, cn, e7, k7_0⟩ := (hdep 7 (by kernel_rfl)).2
          have rr7 := (rbk 98 (by decide)).trans e7
          have E7 := Lib.hid e7
          clear e7
          have K7_0 := Lib.hid k7_0
          clear k7_0
          have p11 := (rb0 11 (by decide)).trans rq11
          have hNL : ¬ rL 9 := hnl
          have HGP := Lib.hid (HPRE.out hNL)
          obtain ⟨x0, x1, x2, x3, x4, x5, x6⟩ := (BB.out.ext HGP.out).q7
          have lnx := (BB.out.ext HGP.out).lt
          have u0 := ext_cell HGP.out c0
          have lbq := Nat.lt_of_lt_of_le hbq HGP.out.size
          have HBF := Lib.hid (HBX.out hnl)
          have HLo := Lib.hid (own_ext HLN.out HGP.out)
          clear x0 x1 x2 x3 x4 x5 x6 lnx
          obtain ⟨yB0, yB1, yB2, yB3, yB4, yB5, yB6⟩ := HBF.out.q7
          obtain ⟨zB0, zB1, zB2, zB3, zB4, zB5, zB6⟩ := HBF.out.z7
          have hlr := HBF.out.lt
          clear rb0 rbk hdep
          go_simp
          have HKW := Lib.hid (keep7 (a0 := .int .i64 Dn) (a1 := .slice An L.length cn) (a2 := .int .i64 Pn) (a3 := .int .i64 Qn) (a4 := .string d) (a5 := .string pn) (a6 := .int .i64 zn) HBF.out)
          exact HKX.out undef _ ⟨bel7 HGW.out hwB, by simpa using hsz, fun hn => (hn (.inl rfl)).elim, fun hn => (hn (.inl rfl)).elim⟩ (by unfold FrxR; rw [if_pos rfl]; exact HKW.out) ⟨An, cn, HKW.out.own K7_0.out (by decide), put7 HBF.out, HKW.out.own HLo.out (by decide)⟩
      intro vs wx kk rL hI hkk hLt hall
      -- E01
      obtain ⟨_, An, cn, ho, hB2, hl2⟩ := hall 9 (by decide)
      obtain ⟨hg2, _, _, _⟩ := hI
      have BB2 := Lib.hid hB2
      have HO2 := Lib.hid ho
      have HL2 := Lib.hid hl2
      have HX2 := Lib.hid hg2
      clear hLt hall hB2 ho hl2 hg2 m0 m1 m2 m3 m4 m5 m6 lm c0 hbq HEX HO HLN HX BB
      simp only [sl]
      simp only [Act.put, List.setIfInBounds_toArray, List.set_cons_succ, List.set_cons_zero]
      go_wp2
      go_roundw
      case rel => exact ⟨j + 1, Dn, Pn, Qn, L, An, cn, d, pn, zn, by go_num, by omega, HCS, BB2, HO2, HL2, HX2⟩
      case measure => simp [intOf]; omega
    · have e2 : ¬ (j : Int) < (m : Int) := by omega
      -- E1
      obtain ⟨hrb, hrz⟩ := came_replays HCM.out
      obtain ⟨R, hR⟩ : ∃ R, R = p.size % 7 := ⟨_, rfl⟩
      obtain ⟨K, hK⟩ : ∃ K, K = p.size - R := ⟨_, rfl⟩
      have hKp : K ≤ p.size := by omega
      obtain ⟨S, hS⟩ : ∃ S, crashT d p K false = S := ⟨_, rfl⟩
      obtain ⟨hSz, hcb, hcn, hrd⟩ := cut_replays HCM.out hKp hS
      have HRP := Lib.hid (fun (w : World) => implRpl_any D7 d p z w (by omega) (by omega))
      unfold RetRpl at HRP
      rw [hrb, hrz] at HRP
      have hco : crashOk d p z (K : Int) = true := by unfold crashOk; rw [hlb]; simp; omega
      have HCR := Lib.hid (fun (w : World) => implCrash_any d p z (K : Int) false w (by omega) (by omega))
      rw [show crashB d p z (K : Int) false = S by unfold crashB; rw [if_pos hco, Int.toNat_natCast]; exact hS, hco] at HCR
      have HRC := Lib.hid (fun (w : World) => implRecover_any S w (by omega))
      rw [decide_eq_true (show S.size ≤ 30000 by omega)] at HRC
      have HRP2 := Lib.hid (fun (w : World) => implRpl_any D7 (rcvD S) ⟨#[]⟩ (rcvN S : Int) w (by omega) (by decide))
      unfold RetRpl at HRP2
      rw [hcb, hcn] at HRP2
      obtain ⟨rd, hrd9⟩ : ∃ o9, rcvD S = o9 := ⟨_, rfl⟩
      obtain ⟨rn, hrn9⟩ : ∃ o9, rcvN S = o9 := ⟨_, rfl⟩
      obtain ⟨re, hre9⟩ : ∃ o9, rcvE S = o9 := ⟨_, rfl⟩
      rw [hrd9, hrn9, hre9] at HRC
      rw [hrd9, hrn9] at HRP2
      have kz : (z == z) = true := by simp
      have kn : ((rn : Int) == (rn : Int)) = true := by simp
      have kt : (p.size : Int).tmod 7 = (R : Int) := by rw [Int.tmod_eq_emod_of_nonneg (by omega)]; omega
      have kw : IntKind.i64.wrap ((p.size : Int) - (R : Int)) = (K : Int) := by rw [IntKind.wrap_i64]; omega
      have kw2 : wrap64 ((p.size : Int) - (R : Int)) = (K : Int) := by unfold wrap64; omega
      have kw3 : IntKind.i64.wrap (R : Int) = (R : Int) := by rw [IntKind.wrap_i64]; omega
      clear hrb hrz hR hK hKp hS hSz hcb hcn hrd hco hrd9 hrn9 hre9 hsq hlb hlz
      -- E2
      go_wp2_with fail
      refine (HRP.out _).mono ?_
      rintro e V5 ⟨rfl, hb⟩
      have BB5 := Lib.hid (BB.out.ext hb)
      have HX5 := Lib.hid (ext_trans HX.out hb)
      clear hb m0 m1 m2 m3 m4 m5 m6 lm BB HX HO HLN
      obtain ⟨m0, m1, m2, m3, m4, m5, m6⟩ := BB5.out.q7
      have lm := BB5.out.lt
      go_wp2_with fail
      refine (HCR.out _).mono ?_
      rintro e V6 ⟨rfl, hb⟩
      have BB6 := Lib.hid (BB5.out.ext hb)
      have HX6 := Lib.hid (ext_trans HX5.out hb)
      clear hb m0 m1 m2 m3 m4 m5 m6 lm BB5 HX5
      go_wp2_with fail
      refine (HRC.out _).mono ?_
      rintro e V7 ⟨rfl, hb⟩
      obtain ⟨NP, hNP⟩ : ∃ N, N = V7.heap.size := ⟨_, rfl⟩
      obtain ⟨V8, hV8⟩ : ∃ y9 : World, y9 = V7.alloc (.cells #[.string rd, .string ⟨#[]⟩, .int .i64 (rn : Int)] 25) := ⟨_, rfl⟩
      have BP8 := Lib.hid (show Blk V8 NP 25 #[.string rd, .string ⟨#[]⟩, .int .i64 (rn : Int)] by rw [hV8]; exact Blk.born V7 _ 25 (H := NP) hNP)
      have BB8 := Lib.hid (show Blk V8 NB 34 #[.int .i64 D, .slice A l.length c, .int .i64 P, .int .i64 Q, .string d, .string p, .int .i64 z] by rw [hV8]; exact (BB6.out.ext hb).al _)
      have HX8 := Lib.hid (show Below w.heap.size w V8 by rw [hV8]; exact ext_alloc (ext_trans HX6.out hb) _)
      -- E3
      go_upto_region 23 with fail
      rw [← hNP, ← hV8]
      clear hNP hV8 hb BB6 HX6
      obtain ⟨u0, u1, u2'⟩ := BP8.out.q3
      have lp8 := BP8.out.lt
      go_wp2_with fail
      refine (HRP2.out _).mono ?_
      rintro e V9 ⟨rfl, hb⟩
      have BB9 := Lib.hid (BB8.out.ext hb)
      have BP9 := Lib.hid (BP8.out.ext hb)
      have HX9 := Lib.hid (ext_trans HX8.out hb)
      clear hb u0 u1 u2' lp8 BB8 BP8 HX8
      obtain ⟨u0, u1, u2'⟩ := BP9.out.q3
      have lp8 := BP9.out.lt
      obtain ⟨m0, m1, m2, m3, m4, m5, m6⟩ := BB9.out.q7
      have lm := BB9.out.lt
      go_wp2
      go_ret
      exact ⟨rfl, HX9.out⟩
end Go.Proofs.YtkcbgiegoadkbaaGreat
