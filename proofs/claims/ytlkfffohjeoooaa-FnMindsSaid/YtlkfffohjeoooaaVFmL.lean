/- The law FnMinds, walked. -/
import Derived.Deep.CutBlock
import Derived.Test.YtlkfffohjeoooaaVM14
import Derived.Test.YtlkfffohjeoooaaVFdR
import Derived.Test.YtlkfffohjeoooaaVM8
import Derived.Test.YtlkfffohjeoooaaVM1
import Derived.Test.YtlkfffohjeoooaaVRegL
import Derived.Test.YtlkfffohjeoooaaVRmS
namespace Go.Proofs.Ytlkfffohjeoooaa
open Go.RowKit
set_option linter.unusedVariables false
set_option linter.unusedSimpArgs false
def FmB (S : Nat) (N : Nat) (Ap : Option Addr) (cp : Nat) (Kp : Option Addr) (kp : Nat) (Ip : Option Addr) (ip : Nat) (p : Md) (s : R2) (b o j m cb : Nat) (Z : Md) (okk : Bool) (vs : Nat → Value) (wx : World) : Nat → Prop
 | 0 => vs 176 = mdV p.u p.lo Ap p.l.length cp Kp p.cl.length kp Ip p.im.length ip p.be p.gu
 | 1 => vs 177 = .slice (some ⟨b, o, none⟩) m cb
 | 2 => vs 178 = .int .i64 j
 | 3 => vs 179 = .pointer (some ⟨b, o + j * 2, none⟩)
 | 4 => vs 180 = .agg #[.int .i64 s.a, .int .i64 s.b]
 | 5 => ∃ (A2 : Option Addr) (c2 : Nat) (K2 : Option Addr) (k2 : Nat) (I2 : Option Addr) (i2 : Nat), vs 181 = .tuple #[mdV Z.u Z.lo A2 Z.l.length c2 K2 Z.cl.length k2 I2 Z.im.length i2 Z.be Z.gu, .bool okk] ∧ (wx.ownsRow S 155 2 (.slice A2 Z.l.length c2) Z.l.length (rowsV2 Z.l)) ∧ (wx.ownsRow S 3 1 (.slice K2 Z.cl.length k2) Z.cl.length (intsV Z.cl)) ∧ (wx.ownsRow S 3 1 (.slice I2 Z.im.length i2) Z.im.length (intsV Z.im))
 | 6 => ∃ (A2 : Option Addr) (c2 : Nat) (K2 : Option Addr) (k2 : Nat) (I2 : Option Addr) (i2 : Nat), vs 175 = .tuple #[mdV Z.u Z.lo A2 Z.l.length c2 K2 Z.cl.length k2 I2 Z.im.length i2 Z.be Z.gu, .bool okk] ∧ (wx.ownsRow S 155 2 (.slice A2 Z.l.length c2) Z.l.length (rowsV2 Z.l)) ∧ (wx.ownsRow S 3 1 (.slice K2 Z.cl.length k2) Z.cl.length (intsV Z.cl)) ∧ (wx.ownsRow S 3 1 (.slice I2 Z.im.length i2) Z.im.length (intsV Z.im))
 | 7 => ∃ (A2 : Option Addr) (c2 : Nat) (K2 : Option Addr) (k2 : Nat) (I2 : Option Addr) (i2 : Nat), vs 182 = mdV Z.u Z.lo A2 Z.l.length c2 K2 Z.cl.length k2 I2 Z.im.length i2 Z.be Z.gu ∧ (wx.ownsRow S 155 2 (.slice A2 Z.l.length c2) Z.l.length (rowsV2 Z.l)) ∧ (wx.ownsRow S 3 1 (.slice K2 Z.cl.length k2) Z.cl.length (intsV Z.cl)) ∧ (wx.ownsRow S 3 1 (.slice I2 Z.im.length i2) Z.im.length (intsV Z.im))
 | 8 => ∃ (A2 : Option Addr) (c2 : Nat) (K2 : Option Addr) (k2 : Nat) (I2 : Option Addr) (i2 : Nat), vs 183 = .bool okk
 | 9 => ∃ gB, vs 21 = .pointer (some ⟨gB, 0, none⟩) ∧ S ≤ gB ∧ ∃ cB0 cB1 cB2 cB3 cB4 cB5 cB6, Blk wx gB 47 #[cB0, cB1, cB2, cB3, cB4, cB5, cB6]
 | 10 => ∃ (gB : Nat) (A2 : Option Addr) (c2 : Nat) (K2 : Option Addr) (k2 : Nat) (I2 : Option Addr) (i2 : Nat), vs 21 = .pointer (some ⟨gB, 0, none⟩) ∧ S ≤ gB ∧ Blk wx gB 47 #[.int .i64 Z.u, .int .i64 Z.lo, .slice A2 Z.l.length c2, .slice K2 Z.cl.length k2, .slice I2 Z.im.length i2, .int .i64 Z.be, .int .i64 Z.gu] ∧ (wx.ownsRow S 155 2 (.slice A2 Z.l.length c2) Z.l.length (rowsV2 Z.l)) ∧ (wx.ownsRow S 3 1 (.slice K2 Z.cl.length k2) Z.cl.length (intsV Z.cl)) ∧ (wx.ownsRow S 3 1 (.slice I2 Z.im.length i2) Z.im.length (intsV Z.im))
 | 11 => ∃ (A2 : Option Addr) (c2 : Nat) (K2 : Option Addr) (k2 : Nat) (I2 : Option Addr) (i2 : Nat), vs 22 = .bool okk
 | _ => True
def FmBU : Nat → List Nat
 | 0 => [176]
 | 1 => [177]
 | 2 => [178]
 | 3 => [179]
 | 4 => [180]
 | 5 => [181]
 | 6 => [175]
 | 7 => [182]
 | 8 => [183]
 | 9 => [21]
 | 10 => [21]
 | 11 => [22]
 | _ => []
theorem FmB_ext {S : Nat} {N : Nat} {Ap : Option Addr} {cp : Nat} {Kp : Option Addr} {kp : Nat} {Ip : Option Addr} {ip : Nat} {p : Md} {s : R2} {b o j m cb : Nat} {Z : Md} {okk : Bool} {vs us : Nat → Value} {wx wy : World} {jN : Nat} (hGG : FmB S N Ap cp Kp kp Ip ip p s b o j m cb Z okk vs wx jN) (haG : ∀ d ∈ FmBU jN, us d = vs d) (hbG : Below wx.heap.size wx wy) : FmB S N Ap cp Kp kp Ip ip p s b o j m cb Z okk us wy jN := by
 match jN, hGG, haG with
 | 0, hGG, haG =>
   exact (haG 176 (by simp [FmBU])).trans hGG
 | 1, hGG, haG =>
   exact (haG 177 (by simp [FmBU])).trans hGG
 | 2, hGG, haG =>
   exact (haG 178 (by simp [FmBU])).trans hGG
 | 3, hGG, haG =>
   exact (haG 179 (by simp [FmBU])).trans hGG
 | 4, hGG, haG =>
   exact (haG 180 (by simp [FmBU])).trans hGG
 | 5, hGG, haG =>
   obtain ⟨xG0, xG1, xG2, xG3, xG4, xG5, eG, fG0, fG1, fG2⟩ := hGG
   exact ⟨xG0, xG1, xG2, xG3, xG4, xG5, (haG 181 (by simp [FmBU])).trans eG, own_ext fG0 hbG, own_ext fG1 hbG, own_ext fG2 hbG⟩
 | 6, hGG, haG =>
   obtain ⟨xG0, xG1, xG2, xG3, xG4, xG5, eG, fG0, fG1, fG2⟩ := hGG
   exact ⟨xG0, xG1, xG2, xG3, xG4, xG5, (haG 175 (by simp [FmBU])).trans eG, own_ext fG0 hbG, own_ext fG1 hbG, own_ext fG2 hbG⟩
 | 7, hGG, haG =>
   obtain ⟨xG0, xG1, xG2, xG3, xG4, xG5, eG, fG0, fG1, fG2⟩ := hGG
   exact ⟨xG0, xG1, xG2, xG3, xG4, xG5, (haG 182 (by simp [FmBU])).trans eG, own_ext fG0 hbG, own_ext fG1 hbG, own_ext fG2 hbG⟩
 | 8, hGG, haG =>
   obtain ⟨xG0, xG1, xG2, xG3, xG4, xG5, eG⟩ := hGG
   exact ⟨xG0, xG1, xG2, xG3, xG4, xG5, (haG 183 (by simp [FmBU])).trans eG⟩
 | 9, hGG, haG =>
   obtain ⟨gB, eG, hsG, cB0, cB1, cB2, cB3, cB4, cB5, cB6, hBG⟩ := hGG
   exact ⟨gB, (haG 21 (by simp [FmBU])).trans eG, hsG, cB0, cB1, cB2, cB3, cB4, cB5, cB6, hBG.ext hbG⟩
 | 10, hGG, haG =>
   obtain ⟨gB, xG0, xG1, xG2, xG3, xG4, xG5, eG, hsG, hBG, fG0, fG1, fG2⟩ := hGG
   exact ⟨gB, xG0, xG1, xG2, xG3, xG4, xG5, (haG 21 (by simp [FmBU])).trans eG, hsG, hBG.ext hbG, own_ext fG0 hbG, own_ext fG1 hbG, own_ext fG2 hbG⟩
 | 11, hGG, haG =>
   obtain ⟨xG0, xG1, xG2, xG3, xG4, xG5, eG⟩ := hGG
   exact ⟨xG0, xG1, xG2, xG3, xG4, xG5, (haG 22 (by simp [FmBU])).trans eG⟩
 | jN + 12, _, _ => trivial
theorem FmB_set {S : Nat} {N : Nat} {Ap : Option Addr} {cp : Nat} {Kp : Option Addr} {kp : Nat} {Ip : Option Addr} {ip : Nat} {p : Md} {s : R2} {b o j m cb : Nat} {Z : Md} {okk : Bool} {vs us : Nat → Value} {wx wy : World} {jN : Nat} (hGG : FmB S N Ap cp Kp kp Ip ip p s b o j m cb Z okk vs wx jN) (haG : ∀ d ∈ FmBU jN, us d = vs d) (hneG : jN ≠ 10) (hbG : KeepW 47 wx wy) : FmB S N Ap cp Kp kp Ip ip p s b o j m cb Z okk us wy jN := by
 match jN, hGG, haG, hneG with
 | 0, hGG, haG, hneG =>
   exact (haG 176 (by simp [FmBU])).trans hGG
 | 1, hGG, haG, hneG =>
   exact (haG 177 (by simp [FmBU])).trans hGG
 | 2, hGG, haG, hneG =>
   exact (haG 178 (by simp [FmBU])).trans hGG
 | 3, hGG, haG, hneG =>
   exact (haG 179 (by simp [FmBU])).trans hGG
 | 4, hGG, haG, hneG =>
   exact (haG 180 (by simp [FmBU])).trans hGG
 | 5, hGG, haG, hneG =>
   obtain ⟨xG0, xG1, xG2, xG3, xG4, xG5, eG, fG0, fG1, fG2⟩ := hGG
   exact ⟨xG0, xG1, xG2, xG3, xG4, xG5, (haG 181 (by simp [FmBU])).trans eG, hbG.own fG0 (by decide), hbG.own fG1 (by decide), hbG.own fG2 (by decide)⟩
 | 6, hGG, haG, hneG =>
   obtain ⟨xG0, xG1, xG2, xG3, xG4, xG5, eG, fG0, fG1, fG2⟩ := hGG
   exact ⟨xG0, xG1, xG2, xG3, xG4, xG5, (haG 175 (by simp [FmBU])).trans eG, hbG.own fG0 (by decide), hbG.own fG1 (by decide), hbG.own fG2 (by decide)⟩
 | 7, hGG, haG, hneG =>
   obtain ⟨xG0, xG1, xG2, xG3, xG4, xG5, eG, fG0, fG1, fG2⟩ := hGG
   exact ⟨xG0, xG1, xG2, xG3, xG4, xG5, (haG 182 (by simp [FmBU])).trans eG, hbG.own fG0 (by decide), hbG.own fG1 (by decide), hbG.own fG2 (by decide)⟩
 | 8, hGG, haG, hneG =>
   obtain ⟨xG0, xG1, xG2, xG3, xG4, xG5, eG⟩ := hGG
   exact ⟨xG0, xG1, xG2, xG3, xG4, xG5, (haG 183 (by simp [FmBU])).trans eG⟩
 | 9, hGG, haG, hneG =>
   obtain ⟨gB, eG, hsG, cB0, cB1, cB2, cB3, cB4, cB5, cB6, hBG⟩ := hGG
   obtain ⟨cs', hB', hz⟩ := hbG.2.2 gB _ hBG
   obtain ⟨d0, d1, d2, d3, d4, d5, d6, rfl⟩ := arr7 (cs := cs') (by rw [hz]; rfl)
   exact ⟨gB, (haG 21 (by simp [FmBU])).trans eG, hsG, d0, d1, d2, d3, d4, d5, d6, hB'⟩
 | 10, hGG, haG, hneG =>
   exact absurd rfl hneG
 | 11, hGG, haG, hneG =>
   obtain ⟨xG0, xG1, xG2, xG3, xG4, xG5, eG⟩ := hGG
   exact ⟨xG0, xG1, xG2, xG3, xG4, xG5, (haG 22 (by simp [FmBU])).trans eG⟩
 | jN + 12, _, _, _ => trivial
set_option maxRecDepth 100000 in
set_option maxHeartbeats 8000000 in
theorem law_FnMinds (A : Option Addr) (n c : Nat) (w : World) (h : Code w w.heap.size A n) (hn63 : n ≤ maxLen) :
 Calls Try.prog 10 #[.slice A n c] w fun e w' => e = .returned (.bool true) ∧ Below w.heap.size w w' := by
 have HV := Lib.hid (fun w => vBig_any A n c w)
 by_cases hbig : (65536 : Int) < n
 · rw [decide_eq_true hbig] at HV
   go_enter Try.func10, Try.ntmps10
   go_wp2_with (go_at_call 40; refine (HV.out _).mono ?_; rintro e w' ⟨rfl, hb⟩)
   go_ret
   exact ⟨rfl, (by repeat (first | exact ext_refl _ | assumption | refine ext_alloc ?_ _ | refine ext_drew ?_ | refine ext_drewN ?_ _ | refine ext_set ?_ (by simp <;> omega) _ | refine ext_trans ?_ (by assumption)))⟩
 · rw [decide_eq_false hbig] at HV
   have hn : n ≤ 65536 := by omega
   have H := Lib.hid h
   clear h hbig hn63
   go_enter Try.func10, Try.ntmps10
   go_wp2_with fail
   refine (HV.out _).mono ?_
   rintro e w1 ⟨rfl, hb⟩
   have s1 : w.heap.size ≤ w1.heap.size := (by have := hb.size; (try simp at this); omega)
   have b1 := Lib.hid (ext_trans (ext_refl w) hb)
   have t1 : w.heap.size ≤ w1.heap.size := b1.out.size
   clear hb
   go_wp2_with fail
   refine (drawStepMind_any A n c _ ((H.out.below b1.out).more b1.out.size) hn).mono ?_
   rintro e w2 ⟨q, Ama, cma, Amk, cmk, Ami, cmi, kd, v, rfl, hl9, hk9, hi9, ho_ma, ho_mk, ho_mi, hb⟩
   have s2 : w1.heap.size ≤ w2.heap.size := (by have := hb.size; (try simp at this); omega)
   have b2 := Lib.hid (ext_trans b1.out hb)
   have t2 : w.heap.size ≤ w2.heap.size := b2.out.size
   clear hb
   have oc_ma := Lib.hid (own_base (base' := w1.heap.size + 0) ho_ma (by simp))
   clear ho_ma
   have oc_mk := Lib.hid (own_base (base' := w1.heap.size + 0) ho_mk (by simp))
   clear ho_mk
   have oc_mi := Lib.hid (own_base (base' := w1.heap.size + 0) ho_mi (by simp))
   clear ho_mi
   have HB := Lib.hid (fun (w : World) h hc hi => (implStepMind_any q.u q.lo Ama q.l.length cma q.l Amk q.cl.length cmk q.cl Ami q.im.length cmi q.im q.be q.gu kd v w (by omega) (by omega) (by omega) h hc hi).mono (retU _ w))
   have HA := Lib.hid (fun (w : World) h hc hi => (specStepMind_any q.u q.lo Ama q.l.length cma q.l Amk q.cl.length cmk q.cl Ami q.im.length cmi q.im q.be q.gu kd v w (by omega) (by omega) (by omega) h hc hi).mono (retU _ w))
   have hN := resQ_len (q := ⟨q.u, q.lo, q.l, q.cl, q.im, q.be, q.gu⟩) (k := kd) (v := v)
   have hlaw := fmStep q kd v
   obtain ⟨O, hO⟩ : ∃ O, stepO ⟨q.u, q.lo, q.l, q.cl, q.im, q.be, q.gu⟩ kd v = O := ⟨_, rfl⟩
   rw [hO] at HA HB hN
   rw [show stepO q kd v = O from hO] at hlaw
   obtain ⟨ok, hok⟩ : ∃ ok, O.isSome = ok := ⟨_, rfl⟩
   obtain ⟨Y, hY⟩ : ∃ Y, resQ O = Y := ⟨_, rfl⟩
   rw [hY, hok] at HA HB hlaw
   rw [hY] at hN
   unfold RetU at HA HB
   obtain ⟨hN1, hN2, hN3⟩ := hN
   have HLAW := Lib.hid hlaw
   have hkk : (ok != ok) = false := by cases ok <;> rfl
   clear hO hok hY hlaw
   go_wp2_with fail
   refine (HB.out _ (Reads.of_own ((oc_ma.out.alloc _).alloc _)) (Reads.of_own ((oc_mk.out.alloc _).alloc _)) (Reads.of_own ((oc_mi.out.alloc _).alloc _))).mono ?_
   rintro e w3 ⟨Aga, cga, Agk, cgk, Agi, cgi, rfl, hne, ho_ga, ho_gk, ho_gi, hb⟩
   have s3 : w2.heap.size + 2 ≤ w3.heap.size := (by have := hb.size; (try simp at this); omega)
   have z3_0 : w2.heap.size < w3.heap.size := (by omega)
   have z3_1 : w2.heap.size + 1 < w3.heap.size := (by omega)
   have q3_0 : w3.cell? ⟨w2.heap.size, 0, none⟩ = some (.int .i64 q.u) := ext_cell hb (by simp [go_sem])
   have q3_1 : w3.cell? ⟨w2.heap.size, 1, none⟩ = some (.int .i64 q.lo) := ext_cell hb (by simp [go_sem])
   have q3_2 : w3.cell? ⟨w2.heap.size, 2, none⟩ = some (.slice Ama q.l.length cma) := ext_cell hb (by simp [go_sem])
   have q3_3 : w3.cell? ⟨w2.heap.size, 3, none⟩ = some (.slice Amk q.cl.length cmk) := ext_cell hb (by simp [go_sem])
   have q3_4 : w3.cell? ⟨w2.heap.size, 4, none⟩ = some (.slice Ami q.im.length cmi) := ext_cell hb (by simp [go_sem])
   have q3_5 : w3.cell? ⟨w2.heap.size, 5, none⟩ = some (.int .i64 q.be) := ext_cell hb (by simp [go_sem])
   have q3_6 : w3.cell? ⟨w2.heap.size, 6, none⟩ = some (.int .i64 q.gu) := ext_cell hb (by simp [go_sem])
   have q3_7 : w3.cell? ⟨w2.heap.size + 1, 0, none⟩ = some (.int .i64 kd) := ext_cell hb (by simp [go_sem])
   have q3_8 : w3.cell? ⟨w2.heap.size + 1, 1, none⟩ = some (.int .i64 v) := ext_cell hb (by simp [go_sem])
   have b3 := Lib.hid (ext_trans (ext_alloc (ext_alloc b2.out _) _) hb)
   have t3 : w.heap.size ≤ w3.heap.size := b3.out.size
   have o3_ma := Lib.hid (own_ext ((oc_ma.out.alloc _).alloc _) hb)
   have o3_mk := Lib.hid (own_ext ((oc_mk.out.alloc _).alloc _) hb)
   have o3_mi := Lib.hid (own_ext ((oc_mi.out.alloc _).alloc _) hb)
   have oc_ga := Lib.hid (own_base (base' := w2.heap.size + 2) ho_ga (by simp))
   clear ho_ga
   have oc_gk := Lib.hid (own_base (base' := w2.heap.size + 2) ho_gk (by simp))
   clear ho_gk
   have oc_gi := Lib.hid (own_base (base' := w2.heap.size + 2) ho_gi (by simp))
   clear ho_gi
   clear hb
   clear hne
   go_wp2_with fail
   refine (HA.out _ (Reads.of_own (o3_ma.out.alloc _)) (Reads.of_own (o3_mk.out.alloc _)) (Reads.of_own (o3_mi.out.alloc _))).mono ?_
   rintro e w4 ⟨Awa, cwa, Awk, cwk, Awi, cwi, rfl, hne, ho_wa, ho_wk, ho_wi, hb⟩
   have s4 : w3.heap.size + 1 ≤ w4.heap.size := (by have := hb.size; (try simp at this); omega)
   have z4_0 : w2.heap.size < w4.heap.size := (by omega)
   have z4_1 : w2.heap.size + 1 < w4.heap.size := (by omega)
   have z4_2 : w3.heap.size < w4.heap.size := (by omega)
   have q4_0 : w4.cell? ⟨w2.heap.size, 0, none⟩ = some (.int .i64 q.u) := ext_cell hb (cell_old q3_0 _)
   have q4_1 : w4.cell? ⟨w2.heap.size, 1, none⟩ = some (.int .i64 q.lo) := ext_cell hb (cell_old q3_1 _)
   have q4_2 : w4.cell? ⟨w2.heap.size, 2, none⟩ = some (.slice Ama q.l.length cma) := ext_cell hb (cell_old q3_2 _)
   have q4_3 : w4.cell? ⟨w2.heap.size, 3, none⟩ = some (.slice Amk q.cl.length cmk) := ext_cell hb (cell_old q3_3 _)
   have q4_4 : w4.cell? ⟨w2.heap.size, 4, none⟩ = some (.slice Ami q.im.length cmi) := ext_cell hb (cell_old q3_4 _)
   have q4_5 : w4.cell? ⟨w2.heap.size, 5, none⟩ = some (.int .i64 q.be) := ext_cell hb (cell_old q3_5 _)
   have q4_6 : w4.cell? ⟨w2.heap.size, 6, none⟩ = some (.int .i64 q.gu) := ext_cell hb (cell_old q3_6 _)
   have q4_7 : w4.cell? ⟨w2.heap.size + 1, 0, none⟩ = some (.int .i64 kd) := ext_cell hb (cell_old q3_7 _)
   have q4_8 : w4.cell? ⟨w2.heap.size + 1, 1, none⟩ = some (.int .i64 v) := ext_cell hb (cell_old q3_8 _)
   have q4_9 : w4.cell? ⟨w3.heap.size, 0, none⟩ = some (.int .i64 Y.u) := ext_cell hb (by simp [go_sem])
   have q4_10 : w4.cell? ⟨w3.heap.size, 1, none⟩ = some (.int .i64 Y.lo) := ext_cell hb (by simp [go_sem])
   have q4_11 : w4.cell? ⟨w3.heap.size, 2, none⟩ = some (.slice Aga Y.l.length cga) := ext_cell hb (by simp [go_sem])
   have q4_12 : w4.cell? ⟨w3.heap.size, 3, none⟩ = some (.slice Agk Y.cl.length cgk) := ext_cell hb (by simp [go_sem])
   have q4_13 : w4.cell? ⟨w3.heap.size, 4, none⟩ = some (.slice Agi Y.im.length cgi) := ext_cell hb (by simp [go_sem])
   have q4_14 : w4.cell? ⟨w3.heap.size, 5, none⟩ = some (.int .i64 Y.be) := ext_cell hb (by simp [go_sem])
   have q4_15 : w4.cell? ⟨w3.heap.size, 6, none⟩ = some (.int .i64 Y.gu) := ext_cell hb (by simp [go_sem])
   have b4 := Lib.hid (ext_trans (ext_alloc b3.out _) hb)
   have t4 : w.heap.size ≤ w4.heap.size := b4.out.size
   have o4_ma := Lib.hid (own_ext (o3_ma.out.alloc _) hb)
   have o4_mk := Lib.hid (own_ext (o3_mk.out.alloc _) hb)
   have o4_mi := Lib.hid (own_ext (o3_mi.out.alloc _) hb)
   have o4_ga := Lib.hid (own_ext (oc_ga.out.alloc _) hb)
   have o4_gk := Lib.hid (own_ext (oc_gk.out.alloc _) hb)
   have o4_gi := Lib.hid (own_ext (oc_gi.out.alloc _) hb)
   clear q3_0 q3_1 q3_2 q3_3 q3_4 q3_5 q3_6 q3_7 q3_8
   have oc_wa := Lib.hid (own_base (base' := w3.heap.size + 1) ho_wa (by simp))
   clear ho_wa
   have oc_wk := Lib.hid (own_base (base' := w3.heap.size + 1) ho_wk (by simp))
   clear ho_wk
   have oc_wi := Lib.hid (own_base (base' := w3.heap.size + 1) ho_wi (by simp))
   clear ho_wi
   clear hb
   clear hne
   obtain ⟨w5, hw5⟩ : ∃ x : World, x = (w4.alloc (.cells #[.int .i64 Y.u, .int .i64 Y.lo, .slice Awa Y.l.length cwa, .slice Awk Y.cl.length cwk, .slice Awi Y.im.length cwi, .int .i64 Y.be, .int .i64 Y.gu] 47)) := ⟨_, rfl⟩
   have hb : Below (w4.alloc (.cells #[.int .i64 Y.u, .int .i64 Y.lo, .slice Awa Y.l.length cwa, .slice Awk Y.cl.length cwk, .slice Awi Y.im.length cwi, .int .i64 Y.be, .int .i64 Y.gu] 47)).heap.size (w4.alloc (.cells #[.int .i64 Y.u, .int .i64 Y.lo, .slice Awa Y.l.length cwa, .slice Awk Y.cl.length cwk, .slice Awi Y.im.length cwi, .int .i64 Y.be, .int .i64 Y.gu] 47)) w5 := by rw [hw5]; exact ext_refl _
   have s5 : w4.heap.size + 1 ≤ w5.heap.size := (by have := hb.size; (try simp at this); omega)
   have z5_0 : w2.heap.size < w5.heap.size := (by omega)
   have z5_1 : w2.heap.size + 1 < w5.heap.size := (by omega)
   have z5_2 : w3.heap.size < w5.heap.size := (by omega)
   have z5_3 : w4.heap.size < w5.heap.size := (by omega)
   have q5_0 : w5.cell? ⟨w2.heap.size, 0, none⟩ = some (.int .i64 q.u) := ext_cell hb (cell_old q4_0 _)
   have q5_1 : w5.cell? ⟨w2.heap.size, 1, none⟩ = some (.int .i64 q.lo) := ext_cell hb (cell_old q4_1 _)
   have q5_2 : w5.cell? ⟨w2.heap.size, 2, none⟩ = some (.slice Ama q.l.length cma) := ext_cell hb (cell_old q4_2 _)
   have q5_3 : w5.cell? ⟨w2.heap.size, 3, none⟩ = some (.slice Amk q.cl.length cmk) := ext_cell hb (cell_old q4_3 _)
   have q5_4 : w5.cell? ⟨w2.heap.size, 4, none⟩ = some (.slice Ami q.im.length cmi) := ext_cell hb (cell_old q4_4 _)
   have q5_5 : w5.cell? ⟨w2.heap.size, 5, none⟩ = some (.int .i64 q.be) := ext_cell hb (cell_old q4_5 _)
   have q5_6 : w5.cell? ⟨w2.heap.size, 6, none⟩ = some (.int .i64 q.gu) := ext_cell hb (cell_old q4_6 _)
   have q5_7 : w5.cell? ⟨w2.heap.size + 1, 0, none⟩ = some (.int .i64 kd) := ext_cell hb (cell_old q4_7 _)
   have q5_8 : w5.cell? ⟨w2.heap.size + 1, 1, none⟩ = some (.int .i64 v) := ext_cell hb (cell_old q4_8 _)
   have q5_9 : w5.cell? ⟨w3.heap.size, 0, none⟩ = some (.int .i64 Y.u) := ext_cell hb (cell_old q4_9 _)
   have q5_10 : w5.cell? ⟨w3.heap.size, 1, none⟩ = some (.int .i64 Y.lo) := ext_cell hb (cell_old q4_10 _)
   have q5_11 : w5.cell? ⟨w3.heap.size, 2, none⟩ = some (.slice Aga Y.l.length cga) := ext_cell hb (cell_old q4_11 _)
   have q5_12 : w5.cell? ⟨w3.heap.size, 3, none⟩ = some (.slice Agk Y.cl.length cgk) := ext_cell hb (cell_old q4_12 _)
   have q5_13 : w5.cell? ⟨w3.heap.size, 4, none⟩ = some (.slice Agi Y.im.length cgi) := ext_cell hb (cell_old q4_13 _)
   have q5_14 : w5.cell? ⟨w3.heap.size, 5, none⟩ = some (.int .i64 Y.be) := ext_cell hb (cell_old q4_14 _)
   have q5_15 : w5.cell? ⟨w3.heap.size, 6, none⟩ = some (.int .i64 Y.gu) := ext_cell hb (cell_old q4_15 _)
   have q5_16 : w5.cell? ⟨w4.heap.size, 0, none⟩ = some (.int .i64 Y.u) := ext_cell hb (by simp [go_sem])
   have q5_17 : w5.cell? ⟨w4.heap.size, 1, none⟩ = some (.int .i64 Y.lo) := ext_cell hb (by simp [go_sem])
   have q5_18 : w5.cell? ⟨w4.heap.size, 2, none⟩ = some (.slice Awa Y.l.length cwa) := ext_cell hb (by simp [go_sem])
   have q5_19 : w5.cell? ⟨w4.heap.size, 3, none⟩ = some (.slice Awk Y.cl.length cwk) := ext_cell hb (by simp [go_sem])
   have q5_20 : w5.cell? ⟨w4.heap.size, 4, none⟩ = some (.slice Awi Y.im.length cwi) := ext_cell hb (by simp [go_sem])
   have q5_21 : w5.cell? ⟨w4.heap.size, 5, none⟩ = some (.int .i64 Y.be) := ext_cell hb (by simp [go_sem])
   have q5_22 : w5.cell? ⟨w4.heap.size, 6, none⟩ = some (.int .i64 Y.gu) := ext_cell hb (by simp [go_sem])
   have b5 := Lib.hid (ext_trans (ext_alloc b4.out _) hb)
   have t5 : w.heap.size ≤ w5.heap.size := b5.out.size
   have o5_ma := Lib.hid (own_ext (o4_ma.out.alloc _) hb)
   have o5_mk := Lib.hid (own_ext (o4_mk.out.alloc _) hb)
   have o5_mi := Lib.hid (own_ext (o4_mi.out.alloc _) hb)
   have o5_ga := Lib.hid (own_ext (o4_ga.out.alloc _) hb)
   have o5_gk := Lib.hid (own_ext (o4_gk.out.alloc _) hb)
   have o5_gi := Lib.hid (own_ext (o4_gi.out.alloc _) hb)
   have o5_wa := Lib.hid (own_ext (oc_wa.out.alloc _) hb)
   have o5_wk := Lib.hid (own_ext (oc_wk.out.alloc _) hb)
   have o5_wi := Lib.hid (own_ext (oc_wi.out.alloc _) hb)
   clear q4_0 q4_1 q4_2 q4_3 q4_4 q4_5 q4_6 q4_7 q4_8 q4_9 q4_10 q4_11 q4_12 q4_13 q4_14 q4_15
   clear hb
   go_upto_region 6 with fail
   rw [← hw5]
   clear hw5
   skip
   go_cut [76] (fun s76 wx => s76 = .bool false ∧ Below w5.heap.size w5 wx)
   case first => as_aux_lemma =>
    have HV1 := Lib.hid (fun (m : Later w5) => vMind_same Y.u Y.lo Aga Awa Y.l.length cga cwa Y.l Agk Awk Y.cl.length cgk cwk Y.cl Agi Awi Y.im.length cgi cwi Y.im Y.be Y.gu m.world hN1 hN2 hN3 (Reads.of_own (own_ext o5_ga.out m.h)) (Reads.of_own (own_ext o5_wa.out m.h)) (Reads.of_own (own_ext o5_gk.out m.h)) (Reads.of_own (own_ext o5_wk.out m.h)) (Reads.of_own (own_ext o5_gi.out m.h)) (Reads.of_own (own_ext o5_wi.out m.h)))
    have HV2 := Lib.hid (fun (m : Later w5) => isMind_any q.u q.lo Ama q.l.length cma q.l Amk q.cl.length cmk q.cl Ami q.im.length cmi q.im q.be q.gu m.world (by omega) (by omega) (by omega) (Reads.of_own (own_ext o5_ma.out m.h)) (Reads.of_own (own_ext o5_mk.out m.h)) (Reads.of_own (own_ext o5_mi.out m.h)))
    have HV3 := Lib.hid (fun (m : Later w5) => specIsMind_any q.u q.lo Ama q.l.length cma q.l Amk q.cl.length cmk q.cl Ami q.im.length cmi q.im q.be q.gu m.world (by omega) (by omega) (by omega) (Reads.of_own (own_ext o5_ma.out m.h)) (Reads.of_own (own_ext o5_mk.out m.h)) (Reads.of_own (own_ext o5_mi.out m.h)))
    have HV4 := Lib.hid (fun (m : Later w5) => isMind_any Y.u Y.lo Aga Y.l.length cga Y.l Agk Y.cl.length cgk Y.cl Agi Y.im.length cgi Y.im Y.be Y.gu m.world hN1 hN2 hN3 (Reads.of_own (own_ext o5_ga.out m.h)) (Reads.of_own (own_ext o5_gk.out m.h)) (Reads.of_own (own_ext o5_gi.out m.h)))
    obtain ⟨mq, hmq⟩ : ∃ b, mindB q.u q.lo q.l q.cl q.im q.be q.gu = b := ⟨_, rfl⟩
    rw [hmq] at HV2 HV3
    clear hmq
    unfold RetV at HV2 HV3 HV4
    have hqq : (mq != mq) = false := by cases mq <;> rfl
    rcases ok with _ | _
    all_goals
     try (have hY := (HLAW.out rfl).1)
     try (rw [hY] at HV4)
     all_goals trace_state
     (refine wp_region_later (by kernel_rfl) (by kernel_rfl) ?_; (repeat (go_big_quiet_step (first | (go_at_call 64; with_reducible exact Calls.later_of (HV1.out _)) | (go_at_call 65; with_reducible exact Calls.later_of (HV2.out _)) | (go_at_call 66; with_reducible exact Calls.later_of (HV3.out _)) | (go_at_call 65; with_reducible exact Calls.later_of (HV4.out _))))); refine wpQuiet_nil ?_; intro wA hw1; obtain ⟨⟨wl, hb⟩, hw1'⟩ := hw1; simp only at hw1'; subst hw1')
     go_wp2_with fail
     go_meet
     exact ⟨rfl, hb⟩
   case rest =>
    obtain ⟨rfl, hb⟩ := hcut
    obtain ⟨w6, hw6⟩ : ∃ x : World, x = wc := ⟨_, rfl⟩
    subst hw6
    have s6 : w5.heap.size ≤ w6.heap.size := (by have := hb.size; (try simp at this); omega)
    have z6_0 : w2.heap.size < w6.heap.size := (by omega)
    have z6_1 : w2.heap.size + 1 < w6.heap.size := (by omega)
    have z6_2 : w3.heap.size < w6.heap.size := (by omega)
    have z6_3 : w4.heap.size < w6.heap.size := (by omega)
    have q6_0 : w6.cell? ⟨w2.heap.size, 0, none⟩ = some (.int .i64 q.u) := ext_cell hb q5_0
    have q6_1 : w6.cell? ⟨w2.heap.size, 1, none⟩ = some (.int .i64 q.lo) := ext_cell hb q5_1
    have q6_2 : w6.cell? ⟨w2.heap.size, 2, none⟩ = some (.slice Ama q.l.length cma) := ext_cell hb q5_2
    have q6_3 : w6.cell? ⟨w2.heap.size, 3, none⟩ = some (.slice Amk q.cl.length cmk) := ext_cell hb q5_3
    have q6_4 : w6.cell? ⟨w2.heap.size, 4, none⟩ = some (.slice Ami q.im.length cmi) := ext_cell hb q5_4
    have q6_5 : w6.cell? ⟨w2.heap.size, 5, none⟩ = some (.int .i64 q.be) := ext_cell hb q5_5
    have q6_6 : w6.cell? ⟨w2.heap.size, 6, none⟩ = some (.int .i64 q.gu) := ext_cell hb q5_6
    have q6_7 : w6.cell? ⟨w2.heap.size + 1, 0, none⟩ = some (.int .i64 kd) := ext_cell hb q5_7
    have q6_8 : w6.cell? ⟨w2.heap.size + 1, 1, none⟩ = some (.int .i64 v) := ext_cell hb q5_8
    have q6_9 : w6.cell? ⟨w3.heap.size, 0, none⟩ = some (.int .i64 Y.u) := ext_cell hb q5_9
    have q6_10 : w6.cell? ⟨w3.heap.size, 1, none⟩ = some (.int .i64 Y.lo) := ext_cell hb q5_10
    have q6_11 : w6.cell? ⟨w3.heap.size, 2, none⟩ = some (.slice Aga Y.l.length cga) := ext_cell hb q5_11
    have q6_12 : w6.cell? ⟨w3.heap.size, 3, none⟩ = some (.slice Agk Y.cl.length cgk) := ext_cell hb q5_12
    have q6_13 : w6.cell? ⟨w3.heap.size, 4, none⟩ = some (.slice Agi Y.im.length cgi) := ext_cell hb q5_13
    have q6_14 : w6.cell? ⟨w3.heap.size, 5, none⟩ = some (.int .i64 Y.be) := ext_cell hb q5_14
    have q6_15 : w6.cell? ⟨w3.heap.size, 6, none⟩ = some (.int .i64 Y.gu) := ext_cell hb q5_15
    have q6_16 : w6.cell? ⟨w4.heap.size, 0, none⟩ = some (.int .i64 Y.u) := ext_cell hb q5_16
    have q6_17 : w6.cell? ⟨w4.heap.size, 1, none⟩ = some (.int .i64 Y.lo) := ext_cell hb q5_17
    have q6_18 : w6.cell? ⟨w4.heap.size, 2, none⟩ = some (.slice Awa Y.l.length cwa) := ext_cell hb q5_18
    have q6_19 : w6.cell? ⟨w4.heap.size, 3, none⟩ = some (.slice Awk Y.cl.length cwk) := ext_cell hb q5_19
    have q6_20 : w6.cell? ⟨w4.heap.size, 4, none⟩ = some (.slice Awi Y.im.length cwi) := ext_cell hb q5_20
    have q6_21 : w6.cell? ⟨w4.heap.size, 5, none⟩ = some (.int .i64 Y.be) := ext_cell hb q5_21
    have q6_22 : w6.cell? ⟨w4.heap.size, 6, none⟩ = some (.int .i64 Y.gu) := ext_cell hb q5_22
    have b6 := Lib.hid (ext_trans b5.out hb)
    have t6 : w.heap.size ≤ w6.heap.size := b6.out.size
    have o6_ma := Lib.hid (own_ext o5_ma.out hb)
    have o6_mk := Lib.hid (own_ext o5_mk.out hb)
    have o6_mi := Lib.hid (own_ext o5_mi.out hb)
    have o6_ga := Lib.hid (own_ext o5_ga.out hb)
    have o6_gk := Lib.hid (own_ext o5_gk.out hb)
    have o6_gi := Lib.hid (own_ext o5_gi.out hb)
    have o6_wa := Lib.hid (own_ext o5_wa.out hb)
    have o6_wk := Lib.hid (own_ext o5_wk.out hb)
    have o6_wi := Lib.hid (own_ext o5_wi.out hb)
    clear q5_0 q5_1 q5_2 q5_3 q5_4 q5_5 q5_6 q5_7 q5_8 q5_9 q5_10 q5_11 q5_12 q5_13 q5_14 q5_15 q5_16 q5_17 q5_18 q5_19 q5_20 q5_21 q5_22
    clear hb
    go_upto_region 8 with fail
    go_cut [87] (fun s87 wx => ∃ b : Bool, s87 = .bool b ∧ (b = true → ok = true ∧ (kd = 1 ∨ kd = 4)) ∧ w6 = wx)
    case first => as_aux_lemma =>
     rcases ok with _ | _
     · go_wp2_with fail
       go_meet
       exact ⟨_, rfl, (fun h => by cases h), rfl⟩
     · by_cases hk1 : kd = 1
       · subst hk1
         go_wp2_with fail
         go_meet
         exact ⟨_, rfl, fun _ => ⟨rfl, .inl rfl⟩, rfl⟩
       · by_cases hk4 : kd = 4
         · subst hk4
           go_wp2_with fail
           go_meet
           exact ⟨_, rfl, fun _ => ⟨rfl, .inr rfl⟩, rfl⟩
         · go_wp2_with fail
           go_meet
           exact ⟨_, rfl, fun h => (by first | (cases h; done) | (simp at h; done) | (exfalso; simp_all)), rfl⟩
    case rest =>
     obtain ⟨b9, rfl, hb9, rfl⟩ := hcut
     go_upto_if 87 with fail
     go_cut [87] (fun s87 wx => Below w6.heap.size w6 wx)
     case first => as_aux_lemma =>
      rcases b9 with _ | _
      · go_wp2_with fail
        go_meet
        exact ext_refl _
      obtain ⟨rfl, hkk4⟩ := hb9 rfl
      obtain ⟨hY, hL1, hL2, hless⟩ := HLAW.out rfl
      have HLESS := Lib.hid (hless hkk4)
      have HL1 := Lib.hid hL1
      have HL2 := Lib.hid hL2
      clear hkk4 hless hL1 hL2 hY
      go_wp2_with fail
      go_loopw [9] (fun i wr => ∃ k : Nat, k ≤ q.cl.length ∧ i = .int .i64 k ∧ Hid (Below w6.heap.size w6 wr)) (fun i _ => q.cl.length - (intOf i).toNat)
      case atStart => exact ⟨0, Nat.zero_le _, rfl, Lib.hid (ext_refl _)⟩
      case round =>
       obtain ⟨k, hk, rfl, hbl⟩ := hrel
       have x0 : wr.cell? ⟨w2.heap.size, 3, none⟩ = some (.slice Amk q.cl.length cmk) := ext_cell hbl.out q6_3
       have x1 : wr.cell? ⟨w2.heap.size, 4, none⟩ = some (.slice Ami q.im.length cmi) := ext_cell hbl.out q6_4
       have x2 : wr.cell? ⟨w3.heap.size, 3, none⟩ = some (.slice Agk Y.cl.length cgk) := ext_cell hbl.out q6_12
       have x3 : wr.cell? ⟨w3.heap.size, 4, none⟩ = some (.slice Agi Y.im.length cgi) := ext_cell hbl.out q6_13
       have hss := hbl.out.size
       have zz0 : w2.heap.size < wr.heap.size := by omega
       have zz2 : w3.heap.size < wr.heap.size := by omega
       by_cases hlt : k < q.cl.length
       · have h1 : (k : Int) < (q.cl.length : Int) := by omega
         by_cases hlt2 : k < Y.cl.length
         · have h2 : (k : Int) < (Y.cl.length : Int) := by omega
           have h3 : (k : Int) < (q.im.length : Int) := by rw [HL1.out]; exact h1
           have h4 : (k : Int) < (Y.im.length : Int) := by rw [HL2.out]; exact h2
           obtain ⟨cc, hc⟩ := list_split (l := q.cl) (k := k) hlt
           obtain ⟨d, hd⟩ := list_split (l := q.im) (k := k) (by omega)
           obtain ⟨c2, hc2⟩ := list_split (l := Y.cl) (k := k) hlt2
           obtain ⟨d2, hd2⟩ := list_split (l := Y.im) (k := k) (by omega)
           obtain ⟨hle, hdd⟩ := HLESS.out k cc d c2 d2 hc hd hc2 hd2
           obtain ⟨b1, o1, hA1, hb1, a1⟩ := ints_at (Reads.of_own (own_ext o6_mk.out hbl.out)) hc
           obtain ⟨b2, o2, hA2, hb2, a2⟩ := ints_at (Reads.of_own (own_ext o6_mi.out hbl.out)) hd
           obtain ⟨b3, o3, hA3, hb3, a3⟩ := ints_at (Reads.of_own (own_ext o6_gk.out hbl.out)) hc2
           obtain ⟨b4, o4, hA4, hb4, a4⟩ := ints_at (Reads.of_own (own_ext o6_gi.out hbl.out)) hd2
           subst hA1 hA2 hA3 hA4
           have h0 : (0 : Int) ≤ (k : Int) := by omega
           have hg1 : decide (cc < c2) = false := by simp; omega
           clear hc hd hc2 hd2 hlt hlt2
           by_cases hdd2 : d2 = d
           · subst hdd2
             have hg2 : (d2 != d2) = false := by simp
             clear hdd
             go_wp2_with fail
             (refine wp_region_later (by kernel_rfl) (by kernel_rfl) ?_; (repeat (go_big_quiet_step (fail))); refine wpQuiet_nil ?_; intro wA hw1; obtain ⟨⟨wl, hb⟩, hw1'⟩ := hw1; simp only at hw1'; subst hw1')
             have hbA := Lib.hid (ext_trans hbl.out hb)
             clear hb
             go_wp2_with fail
             go_roundw
             case rel => exact ⟨k + 1, by omega, by go_num, hbA⟩
             case measure => simp [intOf]; omega
           · have hd1 : d2 = -1 := by omega
             subst hd1
             have hg2 : ((-1 : Int) != d) = true := by simpa using hdd2
             clear hdd hdd2
             go_wp2_with fail
             (refine wp_region_later (by kernel_rfl) (by kernel_rfl) ?_; (repeat (go_big_quiet_step (fail))); refine wpQuiet_nil ?_; intro wA hw1; obtain ⟨⟨wl, hb⟩, hw1'⟩ := hw1; simp only at hw1'; subst hw1')
             have hbA := Lib.hid (ext_trans hbl.out hb)
             clear hb
             go_wp2_with fail
             go_roundw
             case rel => exact ⟨k + 1, by omega, by go_num, hbA⟩
             case measure => simp [intOf]; omega
         · have h2 : ¬ (k : Int) < (Y.cl.length : Int) := by omega
           go_wp2_with fail
           go_meet
           exact hbl.out
       · have h1 : ¬ (k : Int) < (q.cl.length : Int) := by omega
         go_wp2_with fail
         go_meet
         exact hbl.out
     case rest =>
      have hb := hcut
      obtain ⟨w7, hw7⟩ : ∃ x : World, x = wc := ⟨_, rfl⟩
      subst hw7
      clear q6_0 q6_1 q6_2 q6_3 q6_4 q6_5 q6_6 q6_7 q6_8 q6_9 q6_10 q6_11 q6_12 q6_13 q6_14 q6_15 q6_16 q6_17 q6_18 q6_19 q6_20 q6_21 q6_22
      have s7 : w6.heap.size ≤ w7.heap.size := (by have := hb.size; (try simp at this); omega)
      have b7 := Lib.hid (ext_trans b6.out hb)
      have t7 : w.heap.size ≤ w7.heap.size := b7.out.size
      clear hb hcut hb9 HB HA HLAW hN1 hN2 hN3 hkk hl9 hk9 hi9
      go_wp2_with fail
      refine (drawRunMind_any A n c _ ((H.out.below b7.out).more b7.out.size) hn).mono ?_
      rintro e w8 ⟨q, Axa, cxa, Axk, cxk, Axi, cxi, Ass, m, css, ss, rfl, hl9, hk9, hi9, hm41, ho_xa, ho_xk, ho_xi, ho_ss, hb⟩
      have s8 : w7.heap.size ≤ w8.heap.size := (by have := hb.size; (try simp at this); omega)
      have b8 := Lib.hid (ext_trans b7.out hb)
      have t8 : w.heap.size ≤ w8.heap.size := b8.out.size
      clear hb
      have oc_xa := Lib.hid (own_base (base' := w7.heap.size + 0) ho_xa (by simp))
      clear ho_xa
      have oc_xk := Lib.hid (own_base (base' := w7.heap.size + 0) ho_xk (by simp))
      clear ho_xk
      have oc_xi := Lib.hid (own_base (base' := w7.heap.size + 0) ho_xi (by simp))
      clear ho_xi
      have oc_ss := Lib.hid (own_base (base' := w7.heap.size + 0) ho_ss (by simp))
      clear ho_ss
      have hss9 := rows_len2 (Reads.of_own oc_ss.out)
      have HB := Lib.hid (fun (w : World) h hc hi hs => (implRunMind_any q.u q.lo Axa q.l.length cxa q.l Axk q.cl.length cxk q.cl Axi q.im.length cxi q.im q.be q.gu Ass m css ss w (by omega) (by omega) (by omega) (by omega) h hc hi hs).mono (retUF _ w))
      have HA := Lib.hid (fun (w : World) h hc hi hs => (specRunMind_any q.u q.lo Axa q.l.length cxa q.l Axk q.cl.length cxk q.cl Axi q.im.length cxi q.im q.be q.gu Ass m css ss w (by omega) (by omega) (by omega) (by omega) h hc hi hs).mono (retUF _ w))
      have hN := resUf_len (q := ⟨q.u, q.lo, q.l, q.cl, q.im, q.be, q.gu⟩) (ss := ss)
      have hlaw := fmRun q ss
      obtain ⟨O, hO⟩ : ∃ O, runO ⟨q.u, q.lo, q.l, q.cl, q.im, q.be, q.gu⟩ ss = O := ⟨_, rfl⟩
      rw [hO] at HA HB hN
      rw [show runO q ss = O from hO] at hlaw
      obtain ⟨ok, hok⟩ : ∃ ok, O.isSome = ok := ⟨_, rfl⟩
      obtain ⟨X, hY⟩ : ∃ X, resUf O = X := ⟨_, rfl⟩
      rw [hY, hok] at HA HB hlaw
      rw [hY] at hN
      obtain ⟨Y, cnt⟩ := X
      unfold RetUF at HA HB
      dsimp only at HA HB hN
      obtain ⟨hN1, hN2, hN3⟩ := hN
      rw [hss9] at hlaw
      have HLAW := Lib.hid hlaw
      have HSL := Lib.hid hss9
      have hkk : (ok != ok) = false := by cases ok <;> rfl
      have hcc : ((cnt : Int) != (cnt : Int)) = false := by simp
      clear hO hok hY hlaw hss9
      go_wp2_with fail
      refine (HB.out _ (Reads.of_own (oc_xa.out.alloc _)) (Reads.of_own (oc_xk.out.alloc _)) (Reads.of_own (oc_xi.out.alloc _)) (Reads.of_own (oc_ss.out.alloc _))).mono ?_
      rintro e w9 ⟨Aga, cga, Agk, cgk, Agi, cgi, rfl, ho_ga, ho_gk, ho_gi, hb⟩
      have s9 : w8.heap.size + 1 ≤ w9.heap.size := (by have := hb.size; (try simp at this); omega)
      have z9_0 : w8.heap.size < w9.heap.size := (by omega)
      have q9_0 : w9.cell? ⟨w8.heap.size, 0, none⟩ = some (.int .i64 q.u) := ext_cell hb (by simp [go_sem])
      have q9_1 : w9.cell? ⟨w8.heap.size, 1, none⟩ = some (.int .i64 q.lo) := ext_cell hb (by simp [go_sem])
      have q9_2 : w9.cell? ⟨w8.heap.size, 2, none⟩ = some (.slice Axa q.l.length cxa) := ext_cell hb (by simp [go_sem])
      have q9_3 : w9.cell? ⟨w8.heap.size, 3, none⟩ = some (.slice Axk q.cl.length cxk) := ext_cell hb (by simp [go_sem])
      have q9_4 : w9.cell? ⟨w8.heap.size, 4, none⟩ = some (.slice Axi q.im.length cxi) := ext_cell hb (by simp [go_sem])
      have q9_5 : w9.cell? ⟨w8.heap.size, 5, none⟩ = some (.int .i64 q.be) := ext_cell hb (by simp [go_sem])
      have q9_6 : w9.cell? ⟨w8.heap.size, 6, none⟩ = some (.int .i64 q.gu) := ext_cell hb (by simp [go_sem])
      have b9 := Lib.hid (ext_trans (ext_alloc b8.out _) hb)
      have t9 : w.heap.size ≤ w9.heap.size := b9.out.size
      have o9_xa := Lib.hid (own_ext (oc_xa.out.alloc _) hb)
      have o9_xk := Lib.hid (own_ext (oc_xk.out.alloc _) hb)
      have o9_xi := Lib.hid (own_ext (oc_xi.out.alloc _) hb)
      have o9_ss := Lib.hid (own_ext (oc_ss.out.alloc _) hb)
      have oc_ga := Lib.hid (own_base (base' := w8.heap.size + 1) ho_ga (by simp))
      clear ho_ga
      have oc_gk := Lib.hid (own_base (base' := w8.heap.size + 1) ho_gk (by simp))
      clear ho_gk
      have oc_gi := Lib.hid (own_base (base' := w8.heap.size + 1) ho_gi (by simp))
      clear ho_gi
      clear hb
      go_wp2_with fail
      refine (HA.out _ (Reads.of_own (o9_xa.out.alloc _)) (Reads.of_own (o9_xk.out.alloc _)) (Reads.of_own (o9_xi.out.alloc _)) (Reads.of_own (o9_ss.out.alloc _))).mono ?_
      rintro e w10 ⟨Awa, cwa, Awk, cwk, Awi, cwi, rfl, ho_wa, ho_wk, ho_wi, hb⟩
      have s10 : w9.heap.size + 1 ≤ w10.heap.size := (by have := hb.size; (try simp at this); omega)
      have z10_0 : w8.heap.size < w10.heap.size := (by omega)
      have z10_1 : w9.heap.size < w10.heap.size := (by omega)
      have q10_0 : w10.cell? ⟨w8.heap.size, 0, none⟩ = some (.int .i64 q.u) := ext_cell hb (cell_old q9_0 _)
      have q10_1 : w10.cell? ⟨w8.heap.size, 1, none⟩ = some (.int .i64 q.lo) := ext_cell hb (cell_old q9_1 _)
      have q10_2 : w10.cell? ⟨w8.heap.size, 2, none⟩ = some (.slice Axa q.l.length cxa) := ext_cell hb (cell_old q9_2 _)
      have q10_3 : w10.cell? ⟨w8.heap.size, 3, none⟩ = some (.slice Axk q.cl.length cxk) := ext_cell hb (cell_old q9_3 _)
      have q10_4 : w10.cell? ⟨w8.heap.size, 4, none⟩ = some (.slice Axi q.im.length cxi) := ext_cell hb (cell_old q9_4 _)
      have q10_5 : w10.cell? ⟨w8.heap.size, 5, none⟩ = some (.int .i64 q.be) := ext_cell hb (cell_old q9_5 _)
      have q10_6 : w10.cell? ⟨w8.heap.size, 6, none⟩ = some (.int .i64 q.gu) := ext_cell hb (cell_old q9_6 _)
      have q10_7 : w10.cell? ⟨w9.heap.size, 0, none⟩ = some (.int .i64 Y.u) := ext_cell hb (by simp [go_sem])
      have q10_8 : w10.cell? ⟨w9.heap.size, 1, none⟩ = some (.int .i64 Y.lo) := ext_cell hb (by simp [go_sem])
      have q10_9 : w10.cell? ⟨w9.heap.size, 2, none⟩ = some (.slice Aga Y.l.length cga) := ext_cell hb (by simp [go_sem])
      have q10_10 : w10.cell? ⟨w9.heap.size, 3, none⟩ = some (.slice Agk Y.cl.length cgk) := ext_cell hb (by simp [go_sem])
      have q10_11 : w10.cell? ⟨w9.heap.size, 4, none⟩ = some (.slice Agi Y.im.length cgi) := ext_cell hb (by simp [go_sem])
      have q10_12 : w10.cell? ⟨w9.heap.size, 5, none⟩ = some (.int .i64 Y.be) := ext_cell hb (by simp [go_sem])
      have q10_13 : w10.cell? ⟨w9.heap.size, 6, none⟩ = some (.int .i64 Y.gu) := ext_cell hb (by simp [go_sem])
      have b10 := Lib.hid (ext_trans (ext_alloc b9.out _) hb)
      have t10 : w.heap.size ≤ w10.heap.size := b10.out.size
      have o10_xa := Lib.hid (own_ext (o9_xa.out.alloc _) hb)
      have o10_xk := Lib.hid (own_ext (o9_xk.out.alloc _) hb)
      have o10_xi := Lib.hid (own_ext (o9_xi.out.alloc _) hb)
      have o10_ss := Lib.hid (own_ext (o9_ss.out.alloc _) hb)
      have o10_ga := Lib.hid (own_ext (oc_ga.out.alloc _) hb)
      have o10_gk := Lib.hid (own_ext (oc_gk.out.alloc _) hb)
      have o10_gi := Lib.hid (own_ext (oc_gi.out.alloc _) hb)
      clear q9_0 q9_1 q9_2 q9_3 q9_4 q9_5 q9_6
      have oc_wa := Lib.hid (own_base (base' := w9.heap.size + 1) ho_wa (by simp))
      clear ho_wa
      have oc_wk := Lib.hid (own_base (base' := w9.heap.size + 1) ho_wk (by simp))
      clear ho_wk
      have oc_wi := Lib.hid (own_base (base' := w9.heap.size + 1) ho_wi (by simp))
      clear ho_wi
      clear hb
      go_wp2_with fail
      refine (vMind_same Y.u Y.lo Aga Awa Y.l.length cga cwa Y.l Agk Awk Y.cl.length cgk cwk Y.cl Agi Awi Y.im.length cgi cwi Y.im Y.be Y.gu _ hN1 hN2 hN3 (Reads.of_own (o10_ga.out.alloc _)) (Reads.of_own (oc_wa.out.alloc _)) (Reads.of_own (o10_gk.out.alloc _)) (Reads.of_own (oc_wk.out.alloc _)) (Reads.of_own (o10_gi.out.alloc _)) (Reads.of_own (oc_wi.out.alloc _))).mono ?_
      rintro e w11 ⟨rfl, hb⟩
      have s11 : w10.heap.size + 1 ≤ w11.heap.size := (by have := hb.size; (try simp at this); omega)
      have z11_0 : w8.heap.size < w11.heap.size := (by omega)
      have z11_1 : w9.heap.size < w11.heap.size := (by omega)
      have z11_2 : w10.heap.size < w11.heap.size := (by omega)
      have q11_0 : w11.cell? ⟨w8.heap.size, 0, none⟩ = some (.int .i64 q.u) := ext_cell hb (cell_old q10_0 _)
      have q11_1 : w11.cell? ⟨w8.heap.size, 1, none⟩ = some (.int .i64 q.lo) := ext_cell hb (cell_old q10_1 _)
      have q11_2 : w11.cell? ⟨w8.heap.size, 2, none⟩ = some (.slice Axa q.l.length cxa) := ext_cell hb (cell_old q10_2 _)
      have q11_3 : w11.cell? ⟨w8.heap.size, 3, none⟩ = some (.slice Axk q.cl.length cxk) := ext_cell hb (cell_old q10_3 _)
      have q11_4 : w11.cell? ⟨w8.heap.size, 4, none⟩ = some (.slice Axi q.im.length cxi) := ext_cell hb (cell_old q10_4 _)
      have q11_5 : w11.cell? ⟨w8.heap.size, 5, none⟩ = some (.int .i64 q.be) := ext_cell hb (cell_old q10_5 _)
      have q11_6 : w11.cell? ⟨w8.heap.size, 6, none⟩ = some (.int .i64 q.gu) := ext_cell hb (cell_old q10_6 _)
      have q11_7 : w11.cell? ⟨w9.heap.size, 0, none⟩ = some (.int .i64 Y.u) := ext_cell hb (cell_old q10_7 _)
      have q11_8 : w11.cell? ⟨w9.heap.size, 1, none⟩ = some (.int .i64 Y.lo) := ext_cell hb (cell_old q10_8 _)
      have q11_9 : w11.cell? ⟨w9.heap.size, 2, none⟩ = some (.slice Aga Y.l.length cga) := ext_cell hb (cell_old q10_9 _)
      have q11_10 : w11.cell? ⟨w9.heap.size, 3, none⟩ = some (.slice Agk Y.cl.length cgk) := ext_cell hb (cell_old q10_10 _)
      have q11_11 : w11.cell? ⟨w9.heap.size, 4, none⟩ = some (.slice Agi Y.im.length cgi) := ext_cell hb (cell_old q10_11 _)
      have q11_12 : w11.cell? ⟨w9.heap.size, 5, none⟩ = some (.int .i64 Y.be) := ext_cell hb (cell_old q10_12 _)
      have q11_13 : w11.cell? ⟨w9.heap.size, 6, none⟩ = some (.int .i64 Y.gu) := ext_cell hb (cell_old q10_13 _)
      have q11_14 : w11.cell? ⟨w10.heap.size, 0, none⟩ = some (.int .i64 Y.u) := ext_cell hb (by simp [go_sem])
      have q11_15 : w11.cell? ⟨w10.heap.size, 1, none⟩ = some (.int .i64 Y.lo) := ext_cell hb (by simp [go_sem])
      have q11_16 : w11.cell? ⟨w10.heap.size, 2, none⟩ = some (.slice Awa Y.l.length cwa) := ext_cell hb (by simp [go_sem])
      have q11_17 : w11.cell? ⟨w10.heap.size, 3, none⟩ = some (.slice Awk Y.cl.length cwk) := ext_cell hb (by simp [go_sem])
      have q11_18 : w11.cell? ⟨w10.heap.size, 4, none⟩ = some (.slice Awi Y.im.length cwi) := ext_cell hb (by simp [go_sem])
      have q11_19 : w11.cell? ⟨w10.heap.size, 5, none⟩ = some (.int .i64 Y.be) := ext_cell hb (by simp [go_sem])
      have q11_20 : w11.cell? ⟨w10.heap.size, 6, none⟩ = some (.int .i64 Y.gu) := ext_cell hb (by simp [go_sem])
      have b11 := Lib.hid (ext_trans (ext_alloc b10.out _) hb)
      have t11 : w.heap.size ≤ w11.heap.size := b11.out.size
      have o11_xa := Lib.hid (own_ext (o10_xa.out.alloc _) hb)
      have o11_xk := Lib.hid (own_ext (o10_xk.out.alloc _) hb)
      have o11_xi := Lib.hid (own_ext (o10_xi.out.alloc _) hb)
      have o11_ss := Lib.hid (own_ext (o10_ss.out.alloc _) hb)
      have o11_ga := Lib.hid (own_ext (o10_ga.out.alloc _) hb)
      have o11_gk := Lib.hid (own_ext (o10_gk.out.alloc _) hb)
      have o11_gi := Lib.hid (own_ext (o10_gi.out.alloc _) hb)
      have o11_wa := Lib.hid (own_ext (oc_wa.out.alloc _) hb)
      have o11_wk := Lib.hid (own_ext (oc_wk.out.alloc _) hb)
      have o11_wi := Lib.hid (own_ext (oc_wi.out.alloc _) hb)
      clear q10_0 q10_1 q10_2 q10_3 q10_4 q10_5 q10_6 q10_7 q10_8 q10_9 q10_10 q10_11 q10_12 q10_13
      clear hb
      go_upto_if 167 with fail
      go_cut [167] (fun s167 wx => Below w11.heap.size w11 wx)
      case first =>
       rcases ok with _ | _
       · go_wp2_with fail
         go_meet
         exact ext_refl _
       obtain ⟨hQK, hrun⟩ := HLAW.out rfl
       have HQK := Lib.hid hQK
       have HRUN := Lib.hid hrun
       clear hQK hrun
       obtain ⟨V0, hV0⟩ : ∃ y : World, y = w11.alloc (.cells #[.int .i64 q.u, .int .i64 q.lo, .slice Axa q.l.length cxa, .slice Axk q.cl.length cxk, .slice Axi q.im.length cxi, .int .i64 q.be, .int .i64 q.gu] 47) := ⟨_, rfl⟩
       have BN0 := Lib.hid (show Blk V0 w11.heap.size 47 #[.int .i64 q.u, .int .i64 q.lo, .slice Axa q.l.length cxa, .slice Axk q.cl.length cxk, .slice Axi q.im.length cxi, .int .i64 q.be, .int .i64 q.gu] by rw [hV0]; exact Blk.born w11 _ 47 (H := w11.heap.size) rfl)
       have HR0 := Lib.hid (show V0.ownsRow 0 155 2 (.slice Axa q.l.length cxa) q.l.length (rowsV2 q.l) by rw [hV0]; exact (own_base (base' := 0) o11_xa.out (Nat.zero_le _)).alloc _)
       have HC0 := Lib.hid (show V0.ownsRow 0 3 1 (.slice Axk q.cl.length cxk) q.cl.length (intsV q.cl) by rw [hV0]; exact (own_base (base' := 0) o11_xk.out (Nat.zero_le _)).alloc _)
       have HI0 := Lib.hid (show V0.ownsRow 0 3 1 (.slice Axi q.im.length cxi) q.im.length (intsV q.im) by rw [hV0]; exact (own_base (base' := 0) o11_xi.out (Nat.zero_le _)).alloc _)
       have HB0 := Lib.hid (show Below w11.heap.size w11 V0 by rw [hV0]; exact ext_alloc (ext_refl _) _)
       go_upto_region 21 with fail
       rw [← hV0]
       clear hV0
       go_wp2_with fail
       go_loopw [19, 20] (fun cc ii wr => ∃ (j : Nat) (p : Md) (Ap : Option Addr) (cp : Nat) (Kp : Option Addr) (kp : Nat) (Ip : Option Addr) (ip ct : Nat), j ≤ m ∧ ii = .int .i64 j ∧ cc = .int .i64 ct ∧ ct ≤ j ∧ Hid (runMi q ss j = (p, ct)) ∧ Hid (mdOK p = true) ∧ Hid (Blk wr w11.heap.size 47 (mdC p.u p.lo Ap p.l.length cp Kp p.cl.length kp Ip p.im.length ip p.be p.gu)) ∧ Hid (wr.ownsRow 0 155 2 (.slice Ap p.l.length cp) p.l.length (rowsV2 p.l)) ∧ Hid (wr.ownsRow 0 3 1 (.slice Kp p.cl.length kp) p.cl.length (intsV p.cl)) ∧ Hid (wr.ownsRow 0 3 1 (.slice Ip p.im.length ip) p.im.length (intsV p.im)) ∧ Hid (Below w11.heap.size w11 wr)) (fun _ ii _ => m - (intOf ii).toNat)
       case atStart => exact ⟨0, q, Axa, cxa, Axk, cxk, Axi, cxi, 0, Nat.zero_le _, rfl, rfl, Nat.le_refl _, Lib.hid rfl, HQK, BN0, HR0, HC0, HI0, HB0⟩
       case round =>
        clear BN0 HR0 HC0 HI0 HB0
        obtain ⟨j, p, Ap, cp, Kp, kp, Ip, ip, ct, hj, rfl, rfl, hcj, HQ, HPK, BNr, HRr, HCr, HIr, HBr⟩ := hrel
        obtain ⟨V, hV⟩ : ∃ y : World, y = wr := ⟨_, rfl⟩
        subst hV
        obtain ⟨d0, d1, d2, d3, d4, d5, d6⟩ := BNr.out.q7
        obtain ⟨z0, z1, z2, z3, z4, z5, z6⟩ := BNr.out.z7
        have ln := BNr.out.lt
        by_cases hlt : j < m
        · obtain ⟨s, hs⟩ := list_split (l := ss) (k := j) (by rw [HSL.out]; exact hlt)
          obtain ⟨b, o, hA, hb', c0, c1⟩ := rows_at2 (Reads.of_own (own_ext o11_ss.out HBr.out)) hs
          subst hA
          have e2 : (j : Int) < (m : Int) := by omega
          obtain ⟨hp1, hp2, hp3⟩ := ok_len HPK.out
          have HST := Lib.hid (fun (w : World) a b d => (implStepMind_any p.u p.lo Ap p.l.length cp p.l Kp p.cl.length kp p.cl Ip p.im.length ip p.im p.be p.gu s.a s.b w hp1 hp2 hp3 a b d).mono (retU _ w))
          have hrn := runMi_next HQ.out hs
          rw [← stepO_on HPK.out] at hrn
          obtain ⟨O2, hO2⟩ : ∃ O2, stepO ⟨p.u, p.lo, p.l, p.cl, p.im, p.be, p.gu⟩ s.a s.b = O2 := ⟨_, rfl⟩
          rw [hO2] at HST
          rw [show stepO p s.a s.b = O2 from hO2] at hrn
          have hst : ∀ z, O2 = some z → mdOK z = true := fun z hz => stepO_ok (hO2.trans hz)
          obtain ⟨Z, hZ⟩ : ∃ Z, resQ O2 = Z := ⟨_, rfl⟩
          obtain ⟨okk, hokk⟩ : ∃ okk, O2.isSome = okk := ⟨_, rfl⟩
          rw [hZ, hokk] at HST
          unfold RetU at HST
          have HRN := Lib.hid hrn
          have HSOK := Lib.hid hst
          have HZ := Lib.hid hZ
          have HOKK := Lib.hid hokk
          clear hs hrn hO2 hst hZ hokk hp1 hp2 hp3
          go_upto_region 24 with fail
          refine wp_region_left (by kernel_rfl) (by kernel_rfl) [21, 22, 175, 176, 177, 178, 179, 180, 181, 182, 183] FmBU (by kernel_rfl) (by decide) 251 (by kernel_rfl) (by simp) (fun ra0 => ra0.eval (.tmp 11) = .slice (some ⟨b, o, none⟩) m css ∧ ra0.eval (.tmp 18) = .pointer (some ⟨w11.heap.size, 0, none⟩) ∧ ra0.eval (.tmp 20) = .int .i64 j) ⟨by kernel_rfl, by kernel_rfl, by kernel_rfl⟩ (fun _ wx => Below V.heap.size V wx) (fun wx wy => Below wx.heap.size wx wy) 10 (KeepW 47) (fun jN vs wx => FmB V.heap.size w11.heap.size Ap cp Kp kp Ip ip p s b o j m css Z okk vs wx jN) ((ext_refl V).drew) (fun _ _ _ _ _ h1 h2 h3 => FmB_ext h1 h2 h3) (fun _ _ _ _ _ h0 h1 h2 h3 => FmB_set h1 h2 h0 h3) ?_ ?_
          · intro ra0 hE ri ro ho Qx vs wx rb KX kk HBw hdep rb0 rbk HK
            repeat (rename_i hz9; clear hz9)
            obtain ⟨rq11, rq18, rq20⟩ := hE
            have hi : ri < 12 := by
             rcases Nat.lt_or_ge ri 12 with h | h
             · exact h
             · rw [Array.getElem?_eq_none (by simpa using h)] at ho; cases ho
            have HBX := Lib.hid HBw
            have hsz := HBw.size
            clear HBw
            rcases (show ri = 0 ∨ ri = 1 ∨ ri = 2 ∨ ri = 3 ∨ ri = 4 ∨ ri = 5 ∨ ri = 6 ∨ ri = 7 ∨ ri = 8 ∨ ri = 9 ∨ ri = 10 ∨ ri = 11 by omega) with rfl | rfl | rfl | rfl | rfl | rfl | rfl | rfl | rfl | rfl | rfl | rfl
            · simp only [List.getElem?_toArray, List.getElem?_cons_succ, List.getElem?_cons_zero, Option.some.injEq] at ho
              subst ho
              have HKX := Lib.hid HK
              clear HK
              have p18 := (rb0 18 (by decide)).trans rq18
              have t0 := ext_cell HBX.out d0
              have t1 := ext_cell HBX.out d1
              have t2 := ext_cell HBX.out d2
              have t3 := ext_cell HBX.out d3
              have t4 := ext_cell HBX.out d4
              have t5 := ext_cell HBX.out d5
              have t6 := ext_cell HBX.out d6
              have lnx : w11.heap.size < wx.heap.size := Nat.lt_of_lt_of_le ln hsz
              have u0 := ext_cell HBX.out c0
              have u1 := ext_cell HBX.out c1
              have lbx : b < wx.heap.size := Nat.lt_of_lt_of_le hb' hsz
              clear rb0 rbk hdep
              go_simp
              exact HKX.out _ _ HBX.out (by rw [if_neg (by decide)]; exact ext_refl _) (upd_same _ _ _)
            · simp only [List.getElem?_toArray, List.getElem?_cons_succ, List.getElem?_cons_zero, Option.some.injEq] at ho
              subst ho
              have HKX := Lib.hid HK
              clear HK
              have p11 := (rb0 11 (by decide)).trans rq11
              have t0 := ext_cell HBX.out d0
              have t1 := ext_cell HBX.out d1
              have t2 := ext_cell HBX.out d2
              have t3 := ext_cell HBX.out d3
              have t4 := ext_cell HBX.out d4
              have t5 := ext_cell HBX.out d5
              have t6 := ext_cell HBX.out d6
              have lnx : w11.heap.size < wx.heap.size := Nat.lt_of_lt_of_le ln hsz
              have u0 := ext_cell HBX.out c0
              have u1 := ext_cell HBX.out c1
              have lbx : b < wx.heap.size := Nat.lt_of_lt_of_le hb' hsz
              clear rb0 rbk hdep
              go_simp
              exact HKX.out _ _ HBX.out (by rw [if_neg (by decide)]; exact ext_refl _) (upd_same _ _ _)
            · simp only [List.getElem?_toArray, List.getElem?_cons_succ, List.getElem?_cons_zero, Option.some.injEq] at ho
              subst ho
              have HKX := Lib.hid HK
              clear HK
              have p20 := (rb0 20 (by decide)).trans rq20
              have t0 := ext_cell HBX.out d0
              have t1 := ext_cell HBX.out d1
              have t2 := ext_cell HBX.out d2
              have t3 := ext_cell HBX.out d3
              have t4 := ext_cell HBX.out d4
              have t5 := ext_cell HBX.out d5
              have t6 := ext_cell HBX.out d6
              have lnx : w11.heap.size < wx.heap.size := Nat.lt_of_lt_of_le ln hsz
              have u0 := ext_cell HBX.out c0
              have u1 := ext_cell HBX.out c1
              have lbx : b < wx.heap.size := Nat.lt_of_lt_of_le hb' hsz
              clear rb0 rbk hdep
              go_simp
              exact HKX.out _ _ HBX.out (by rw [if_neg (by decide)]; exact ext_refl _) (upd_same _ _ _)
            · simp only [List.getElem?_toArray, List.getElem?_cons_succ, List.getElem?_cons_zero, Option.some.injEq] at ho
              subst ho
              have HKX := Lib.hid HK
              clear HK
              have e1 : vs 177 = .slice (some ⟨b, o, none⟩) m css := (hdep 1 (by kernel_rfl))
              have e2 : vs 178 = .int .i64 j := (hdep 2 (by kernel_rfl))
              have rr1 := (rbk 177 (by decide)).trans e1
              have rr2 := (rbk 178 (by decide)).trans e2
              have E1 := Lib.hid e1
              clear e1
              have E2 := Lib.hid e2
              clear e2
              clear rb0 rbk hdep
              go_simp
              exact HKX.out _ _ HBX.out (by rw [if_neg (by decide)]; exact ext_refl _) (upd_same _ _ _)
            · simp only [List.getElem?_toArray, List.getElem?_cons_succ, List.getElem?_cons_zero, Option.some.injEq] at ho
              subst ho
              have HKX := Lib.hid HK
              clear HK
              have e3 : vs 179 = .pointer (some ⟨b, o + j * 2, none⟩) := (hdep 3 (by kernel_rfl))
              have p11 := (rb0 11 (by decide)).trans rq11
              have rr3 := (rbk 179 (by decide)).trans e3
              have E3 := Lib.hid e3
              clear e3
              have t0 := ext_cell HBX.out d0
              have t1 := ext_cell HBX.out d1
              have t2 := ext_cell HBX.out d2
              have t3 := ext_cell HBX.out d3
              have t4 := ext_cell HBX.out d4
              have t5 := ext_cell HBX.out d5
              have t6 := ext_cell HBX.out d6
              have lnx : w11.heap.size < wx.heap.size := Nat.lt_of_lt_of_le ln hsz
              have u0 := ext_cell HBX.out c0
              have u1 := ext_cell HBX.out c1
              have lbx : b < wx.heap.size := Nat.lt_of_lt_of_le hb' hsz
              clear rb0 rbk hdep
              go_simp
              exact HKX.out _ _ HBX.out (by rw [if_neg (by decide)]; exact ext_refl _) (upd_same _ _ _)
            · simp only [List.getElem?_toArray, List.getElem?_cons_succ, List.getElem?_cons_zero, Option.some.injEq] at ho
              subst ho
              have HKX := Lib.hid HK
              clear HK
              have e0 : vs 176 = mdV p.u p.lo Ap p.l.length cp Kp p.cl.length kp Ip p.im.length ip p.be p.gu := (hdep 0 (by kernel_rfl))
              have e4 : vs 180 = .agg #[.int .i64 s.a, .int .i64 s.b] := (hdep 4 (by kernel_rfl))
              have rr0 := (rbk 176 (by decide)).trans e0
              have rr4 := (rbk 180 (by decide)).trans e4
              have E0 := Lib.hid e0
              clear e0
              have E4 := Lib.hid e4
              clear e4
              clear rb0 rbk hdep
              go_simp
              (with_reducible refine (HST.out _ (Reads.of_own (own_ext HRr.out HBX.out)) (Reads.of_own (own_ext HCr.out HBX.out)) (Reads.of_own (own_ext HIr.out HBX.out))).mono ?_)
              rintro e w' ⟨A2, c2, K2, k2, I2, i2, rfl, _, nF0, nF1, nF2, hb⟩
              go_simp
              exact HKX.out _ _ (ext_trans HBX.out hb) (by rw [if_neg (by decide)]; exact hb) (⟨A2, c2, K2, k2, I2, i2, upd_same _ _ _, own_base nF0 hsz, own_base nF1 hsz, own_base nF2 hsz⟩)
            · simp only [List.getElem?_toArray, List.getElem?_cons_succ, List.getElem?_cons_zero, Option.some.injEq] at ho
              subst ho
              have HKX := Lib.hid HK
              clear HK
              obtain ⟨A2, c2, K2, k2, I2, i2, e5, k5_0, k5_1, k5_2⟩ := (hdep 5 (by kernel_rfl))
              have rr5 := (rbk 181 (by decide)).trans e5
              have E5 := Lib.hid e5
              clear e5
              have K5_0 := Lib.hid k5_0
              clear k5_0
              have K5_1 := Lib.hid k5_1
              clear k5_1
              have K5_2 := Lib.hid k5_2
              clear k5_2
              clear rb0 rbk hdep
              go_simp
              exact HKX.out _ _ HBX.out (by rw [if_neg (by decide)]; exact ext_refl _) (⟨A2, c2, K2, k2, I2, i2, upd_same _ _ _, K5_0.out, K5_1.out, K5_2.out⟩)
            · simp only [List.getElem?_toArray, List.getElem?_cons_succ, List.getElem?_cons_zero, Option.some.injEq] at ho
              subst ho
              have HKX := Lib.hid HK
              clear HK
              obtain ⟨A2, c2, K2, k2, I2, i2, e6, k6_0, k6_1, k6_2⟩ := (hdep 6 (by kernel_rfl))
              have rr6 := (rbk 175 (by decide)).trans e6
              have E6 := Lib.hid e6
              clear e6
              have K6_0 := Lib.hid k6_0
              clear k6_0
              have K6_1 := Lib.hid k6_1
              clear k6_1
              have K6_2 := Lib.hid k6_2
              clear k6_2
              clear rb0 rbk hdep
              go_simp
              exact HKX.out _ _ HBX.out (by rw [if_neg (by decide)]; exact ext_refl _) (⟨A2, c2, K2, k2, I2, i2, upd_same _ _ _, K6_0.out, K6_1.out, K6_2.out⟩)
            · simp only [List.getElem?_toArray, List.getElem?_cons_succ, List.getElem?_cons_zero, Option.some.injEq] at ho
              subst ho
              have HKX := Lib.hid HK
              clear HK
              obtain ⟨A2, c2, K2, k2, I2, i2, e6, k6_0, k6_1, k6_2⟩ := (hdep 6 (by kernel_rfl))
              have rr6 := (rbk 175 (by decide)).trans e6
              have E6 := Lib.hid e6
              clear e6
              have K6_0 := Lib.hid k6_0
              clear k6_0
              have K6_1 := Lib.hid k6_1
              clear k6_1
              have K6_2 := Lib.hid k6_2
              clear k6_2
              clear rb0 rbk hdep
              go_simp
              exact HKX.out _ _ HBX.out (by rw [if_neg (by decide)]; exact ext_refl _) (⟨A2, c2, K2, k2, I2, i2, upd_same _ _ _⟩)
            · simp only [List.getElem?_toArray, List.getElem?_cons_succ, List.getElem?_cons_zero, Option.some.injEq] at ho
              subst ho
              have HKX := Lib.hid HK
              clear HK
              clear rb0 rbk hdep
              go_simp
              exact HKX.out _ _ (ext_alloc HBX.out _) (by rw [if_neg (by decide)]; exact ext_alloc (ext_refl _) _) ⟨wx.heap.size, upd_same _ _ _, hsz, _, _, _, _, _, _, _, Blk.born _ _ _ rfl⟩
            · simp only [List.getElem?_toArray, List.getElem?_cons_succ, List.getElem?_cons_zero, Option.some.injEq] at ho
              subst ho
              have HKX := Lib.hid HK
              clear HK
              obtain ⟨gB, e9, hs9, cB0, cB1, cB2, cB3, cB4, cB5, cB6, hB9⟩ := (hdep 9 (by kernel_rfl))
              obtain ⟨A2, c2, K2, k2, I2, i2, e7, k7_0, k7_1, k7_2⟩ := (hdep 7 (by kernel_rfl))
              have rr9 := (rbk 21 (by decide)).trans e9
              have rr7 := (rbk 182 (by decide)).trans e7
              have E9 := Lib.hid e9
              clear e9
              have E7 := Lib.hid e7
              clear e7
              have K7_0 := Lib.hid k7_0
              clear k7_0
              have K7_1 := Lib.hid k7_1
              clear k7_1
              have K7_2 := Lib.hid k7_2
              clear k7_2
              have hlt := hB9.lt
              obtain ⟨yB0, yB1, yB2, yB3, yB4, yB5, yB6⟩ := hB9.q7
              obtain ⟨zB0, zB1, zB2, zB3, zB4, zB5, zB6⟩ := hB9.z7
              have HBB := Lib.hid hB9
              clear hB9 rb0 rbk hdep
              go_simp
              have HKW := Lib.hid (keep7 (a0 := .int .i64 Z.u) (a1 := .int .i64 Z.lo) (a2 := .slice A2 Z.l.length c2) (a3 := .slice K2 Z.cl.length k2) (a4 := .slice I2 Z.im.length i2) (a5 := .int .i64 Z.be) (a6 := .int .i64 Z.gu) HBB.out)
              exact HKX.out undef _ (bel7 HBX.out hs9) (by rw [if_pos rfl]; exact HKW.out) ⟨gB, A2, c2, K2, k2, I2, i2, E9.out, hs9, put7 HBB.out, HKW.out.own K7_0.out (by decide), HKW.out.own K7_1.out (by decide), HKW.out.own K7_2.out (by decide)⟩
            · simp only [List.getElem?_toArray, List.getElem?_cons_succ, List.getElem?_cons_zero, Option.some.injEq] at ho
              subst ho
              have HKX := Lib.hid HK
              clear HK
              obtain ⟨A2, c2, K2, k2, I2, i2, e8⟩ := (hdep 8 (by kernel_rfl))
              have rr8 := (rbk 183 (by decide)).trans e8
              have E8 := Lib.hid e8
              clear e8
              clear rb0 rbk hdep
              go_simp
              exact HKX.out _ _ HBX.out (by rw [if_neg (by decide)]; exact ext_refl _) (⟨A2, c2, K2, k2, I2, i2, upd_same _ _ _⟩)
          intro vs wx kk hb hall
          obtain ⟨P, A2, c2, K2, k2, I2, i2, e1, hPl, hB, hr2, hc2, hi2⟩ := hall 10 (by decide)
          obtain ⟨_, _, _, _, _, _, e2'⟩ := hall 11 (by decide)
          clear hall
          simp only [sl]
          rw [e1, e2']
          clear e1 e2'
          simp only [Act.put, List.setIfInBounds_toArray, List.set_cons_succ, List.set_cons_zero]
          have BP := Lib.hid hB
          have HR4 := Lib.hid (own_base (base' := 0) hr2 (Nat.zero_le _))
          have HC4 := Lib.hid (own_base (base' := 0) hc2 (Nat.zero_le _))
          have HI4 := Lib.hid (own_base (base' := 0) hi2 (Nat.zero_le _))
          have BN4 := Lib.hid (BNr.out.ext hb)
          have HB4 := Lib.hid (ext_trans HBr.out hb)
          have HX4 := Lib.hid hb
          clear hb hr2 hc2 hi2 hB d0 d1 d2 d3 d4 d5 d6 z0 z1 z2 z3 z4 z5 z6 c0 c1 hb'
          rcases O2 with _ | z
          · have hk9 : okk = false := HOKK.out.symm
            subst hk9
            go_wp2_with fail
            go_roundw
            case rel => exact ⟨j + 1, p, Ap, cp, Kp, kp, Ip, ip, ct, by omega, by go_num, rfl, by omega, HRN, HPK, BN4, Lib.hid (own_ext HRr.out HX4.out), Lib.hid (own_ext HCr.out HX4.out), Lib.hid (own_ext HIr.out HX4.out), HB4⟩
            case measure => simp [intOf]; omega
          · have hk9 : okk = true := HOKK.out.symm
            subst hk9
            have hz9 : z = Z := HZ.out
            subst hz9
            have HQ2 := Lib.hid (HSOK.out z rfl)
            obtain ⟨d0, d1, d2, d3, d4, d5, d6⟩ := BN4.out.q7
            obtain ⟨z0, z1, z2, z3, z4, z5, z6⟩ := BN4.out.z7
            have ln4 := BN4.out.lt
            obtain ⟨v0, v1, v2, v3, v4, v5, v6⟩ := BP.out.q7
            have lp := BP.out.lt
            have hPN : P ≠ w11.heap.size := by omega
            go_wp2_with fail
            go_roundw
            case rel => exact ⟨j + 1, z, A2, c2, K2, k2, I2, i2, ct + 1, by omega, by go_num, by go_num, by omega, HRN, HQ2, Lib.hid (m7_put BN4.out), Lib.hid (m7_own HR4.out (own_nbT HR4.out BN4.out (by decide))), Lib.hid (m7_own HC4.out (own_nbT HC4.out BN4.out (by decide))), Lib.hid (m7_own HI4.out (own_nbT HI4.out BN4.out (by decide))), Lib.hid (m7_below HB4.out (Nat.le_refl _))⟩
            case measure => simp [intOf]; omega
        · obtain rfl : j = m := by omega
          have hfin := HQ.out.symm.trans HRUN.out
          injection hfin with hp hct
          subst hp hct
          have x0 : V.cell? ⟨w9.heap.size, 0, none⟩ = some (.int .i64 p.u) := ext_cell HBr.out q11_7
          have x1 : V.cell? ⟨w9.heap.size, 1, none⟩ = some (.int .i64 p.lo) := ext_cell HBr.out q11_8
          have x2 : V.cell? ⟨w9.heap.size, 2, none⟩ = some (.slice Aga p.l.length cga) := ext_cell HBr.out q11_9
          have x3 : V.cell? ⟨w9.heap.size, 3, none⟩ = some (.slice Agk p.cl.length cgk) := ext_cell HBr.out q11_10
          have x4 : V.cell? ⟨w9.heap.size, 4, none⟩ = some (.slice Agi p.im.length cgi) := ext_cell HBr.out q11_11
          have x5 : V.cell? ⟨w9.heap.size, 5, none⟩ = some (.int .i64 p.be) := ext_cell HBr.out q11_12
          have x6 : V.cell? ⟨w9.heap.size, 6, none⟩ = some (.int .i64 p.gu) := ext_cell HBr.out q11_13
          have zg : w9.heap.size < V.heap.size := Nat.lt_of_lt_of_le z11_1 HBr.out.size
          have hcc2 : ((ct : Int) != (ct : Int)) = false := by simp
          have e2 : ¬ (j : Int) < (j : Int) := by omega
          have HVM := Lib.hid (vMind_same p.u p.lo Ap Aga p.l.length cp cga p.l Kp Agk p.cl.length kp cgk p.cl Ip Agi p.im.length ip cgi p.im p.be p.gu V hN1 hN2 hN3 (Reads.of_own HRr.out) (Reads.of_own (own_ext o11_ga.out HBr.out)) (Reads.of_own HCr.out) (Reads.of_own (own_ext o11_gk.out HBr.out)) (Reads.of_own HIr.out) (Reads.of_own (own_ext o11_gi.out HBr.out)))
          go_wp2_with fail
          refine HVM.out.mono ?_
          rintro e w' ⟨rfl, hb⟩
          go_wp2_with fail
          go_meet
          exact ext_trans HBr.out hb
      case rest => as_aux_lemma =>
       have hb := hcut
       obtain ⟨w12, hw12⟩ : ∃ x : World, x = wc := ⟨_, rfl⟩
       subst hw12
       clear q11_0 q11_1 q11_2 q11_3 q11_4 q11_5 q11_6 q11_7 q11_8 q11_9 q11_10 q11_11 q11_12 q11_13 q11_14 q11_15 q11_16 q11_17 q11_18 q11_19 q11_20
       have s12 : w11.heap.size ≤ w12.heap.size := (by have := hb.size; (try simp at this); omega)
       have b12 := Lib.hid (ext_trans b11.out hb)
       have t12 : w.heap.size ≤ w12.heap.size := b12.out.size
       clear hb hcut HB HA HLAW hN1 hN2 hN3 hkk hcc HSL hl9 hk9 hi9 hm41
       go_wp2_with fail
       refine (drawNewMind_any A n c _ ((H.out.below b12.out).more b12.out.size) hn).mono ?_
       rintro e w13 ⟨u, lo, l, As, cs, rfl, hIN, ho_s, hb⟩
       have s13 : w12.heap.size ≤ w13.heap.size := (by have := hb.size; (try simp at this); omega)
       have b13 := Lib.hid (ext_trans b12.out hb)
       have t13 : w.heap.size ≤ w13.heap.size := b13.out.size
       clear hb
       have oc_s := Lib.hid (own_base (base' := w12.heap.size + 0) ho_s (by simp))
       clear ho_s
       have hl9 : l.length ≤ 9 := hIN.2.2.2.2.2.1
       clear hIN
       have HB := Lib.hid (fun (w : World) h => (implNewMind_any u lo As l.length cs l w (by omega) h).mono (retU _ w))
       have HA := Lib.hid (fun (w : World) h => (specNewMind_any u lo As l.length cs l w (by omega) h).mono (retU _ w))
       have hN := newO_len (u := u) (lo := lo) (l := l)
       have hlaw := fmNew u lo l
       obtain ⟨O, hO⟩ : ∃ O, newO u lo l = O := ⟨_, rfl⟩
       rw [hO] at HA HB hN hlaw
       obtain ⟨ok, hok⟩ : ∃ ok, O.isSome = ok := ⟨_, rfl⟩
       obtain ⟨Y, hY⟩ : ∃ Y, resQ O = Y := ⟨_, rfl⟩
       rw [hY, hok] at HA HB hlaw
       rw [hY] at hN
       unfold RetU at HA HB
       obtain ⟨hN1, hN2, hN3⟩ := hN
       have hN1 : Y.l.length ≤ 1048576 := by omega
       have hN2 : Y.cl.length ≤ 1048576 := by omega
       have hN3 : Y.im.length ≤ 1048576 := by omega
       have HLAW := Lib.hid hlaw
       have hkk : (ok != ok) = false := by cases ok <;> rfl
       clear hO hok hY hlaw
       go_wp2_with fail
       refine (HB.out _ (Reads.of_own (oc_s.out.alloc _))).mono ?_
       rintro e w14 ⟨Aga, cga, Agk, cgk, Agi, cgi, rfl, hne, ho_ga, ho_gk, ho_gi, hb⟩
       have s14 : w13.heap.size + 1 ≤ w14.heap.size := (by have := hb.size; (try simp at this); omega)
       have z14_0 : w13.heap.size < w14.heap.size := (by omega)
       have q14_0 : w14.cell? ⟨w13.heap.size, 0, none⟩ = some (.int .i64 u) := ext_cell hb (by simp [go_sem])
       have q14_1 : w14.cell? ⟨w13.heap.size, 1, none⟩ = some (.int .i64 lo) := ext_cell hb (by simp [go_sem])
       have q14_2 : w14.cell? ⟨w13.heap.size, 2, none⟩ = some (.slice As l.length cs) := ext_cell hb (by simp [go_sem])
       have b14 := Lib.hid (ext_trans (ext_alloc b13.out _) hb)
       have t14 : w.heap.size ≤ w14.heap.size := b14.out.size
       have o14_s := Lib.hid (own_ext (oc_s.out.alloc _) hb)
       have oc_ga := Lib.hid (own_base (base' := w13.heap.size + 1) ho_ga (by simp))
       clear ho_ga
       have oc_gk := Lib.hid (own_base (base' := w13.heap.size + 1) ho_gk (by simp))
       clear ho_gk
       have oc_gi := Lib.hid (own_base (base' := w13.heap.size + 1) ho_gi (by simp))
       clear ho_gi
       clear hb
       clear hne
       go_wp2_with fail
       refine (HA.out _ (Reads.of_own (o14_s.out.alloc _))).mono ?_
       rintro e w15 ⟨Awa, cwa, Awk, cwk, Awi, cwi, rfl, hne, ho_wa, ho_wk, ho_wi, hb⟩
       have s15 : w14.heap.size + 1 ≤ w15.heap.size := (by have := hb.size; (try simp at this); omega)
       have z15_0 : w13.heap.size < w15.heap.size := (by omega)
       have z15_1 : w14.heap.size < w15.heap.size := (by omega)
       have q15_0 : w15.cell? ⟨w13.heap.size, 0, none⟩ = some (.int .i64 u) := ext_cell hb (cell_old q14_0 _)
       have q15_1 : w15.cell? ⟨w13.heap.size, 1, none⟩ = some (.int .i64 lo) := ext_cell hb (cell_old q14_1 _)
       have q15_2 : w15.cell? ⟨w13.heap.size, 2, none⟩ = some (.slice As l.length cs) := ext_cell hb (cell_old q14_2 _)
       have q15_3 : w15.cell? ⟨w14.heap.size, 0, none⟩ = some (.int .i64 Y.u) := ext_cell hb (by simp [go_sem])
       have q15_4 : w15.cell? ⟨w14.heap.size, 1, none⟩ = some (.int .i64 Y.lo) := ext_cell hb (by simp [go_sem])
       have q15_5 : w15.cell? ⟨w14.heap.size, 2, none⟩ = some (.slice Aga Y.l.length cga) := ext_cell hb (by simp [go_sem])
       have q15_6 : w15.cell? ⟨w14.heap.size, 3, none⟩ = some (.slice Agk Y.cl.length cgk) := ext_cell hb (by simp [go_sem])
       have q15_7 : w15.cell? ⟨w14.heap.size, 4, none⟩ = some (.slice Agi Y.im.length cgi) := ext_cell hb (by simp [go_sem])
       have q15_8 : w15.cell? ⟨w14.heap.size, 5, none⟩ = some (.int .i64 Y.be) := ext_cell hb (by simp [go_sem])
       have q15_9 : w15.cell? ⟨w14.heap.size, 6, none⟩ = some (.int .i64 Y.gu) := ext_cell hb (by simp [go_sem])
       have b15 := Lib.hid (ext_trans (ext_alloc b14.out _) hb)
       have t15 : w.heap.size ≤ w15.heap.size := b15.out.size
       have o15_s := Lib.hid (own_ext (o14_s.out.alloc _) hb)
       have o15_ga := Lib.hid (own_ext (oc_ga.out.alloc _) hb)
       have o15_gk := Lib.hid (own_ext (oc_gk.out.alloc _) hb)
       have o15_gi := Lib.hid (own_ext (oc_gi.out.alloc _) hb)
       clear q14_0 q14_1 q14_2
       have oc_wa := Lib.hid (own_base (base' := w14.heap.size + 1) ho_wa (by simp))
       clear ho_wa
       have oc_wk := Lib.hid (own_base (base' := w14.heap.size + 1) ho_wk (by simp))
       clear ho_wk
       have oc_wi := Lib.hid (own_base (base' := w14.heap.size + 1) ho_wi (by simp))
       clear ho_wi
       clear hb
       clear hne
       go_wp2_with fail
       refine (vMind_same Y.u Y.lo Aga Awa Y.l.length cga cwa Y.l Agk Awk Y.cl.length cgk cwk Y.cl Agi Awi Y.im.length cgi cwi Y.im Y.be Y.gu _ hN1 hN2 hN3 (Reads.of_own (o15_ga.out.alloc _)) (Reads.of_own (oc_wa.out.alloc _)) (Reads.of_own (o15_gk.out.alloc _)) (Reads.of_own (oc_wk.out.alloc _)) (Reads.of_own (o15_gi.out.alloc _)) (Reads.of_own (oc_wi.out.alloc _))).mono ?_
       rintro e w16 ⟨rfl, hb⟩
       have s16 : w15.heap.size + 1 ≤ w16.heap.size := (by have := hb.size; (try simp at this); omega)
       have z16_0 : w13.heap.size < w16.heap.size := (by omega)
       have z16_1 : w14.heap.size < w16.heap.size := (by omega)
       have z16_2 : w15.heap.size < w16.heap.size := (by omega)
       have q16_0 : w16.cell? ⟨w13.heap.size, 0, none⟩ = some (.int .i64 u) := ext_cell hb (cell_old q15_0 _)
       have q16_1 : w16.cell? ⟨w13.heap.size, 1, none⟩ = some (.int .i64 lo) := ext_cell hb (cell_old q15_1 _)
       have q16_2 : w16.cell? ⟨w13.heap.size, 2, none⟩ = some (.slice As l.length cs) := ext_cell hb (cell_old q15_2 _)
       have q16_3 : w16.cell? ⟨w14.heap.size, 0, none⟩ = some (.int .i64 Y.u) := ext_cell hb (cell_old q15_3 _)
       have q16_4 : w16.cell? ⟨w14.heap.size, 1, none⟩ = some (.int .i64 Y.lo) := ext_cell hb (cell_old q15_4 _)
       have q16_5 : w16.cell? ⟨w14.heap.size, 2, none⟩ = some (.slice Aga Y.l.length cga) := ext_cell hb (cell_old q15_5 _)
       have q16_6 : w16.cell? ⟨w14.heap.size, 3, none⟩ = some (.slice Agk Y.cl.length cgk) := ext_cell hb (cell_old q15_6 _)
       have q16_7 : w16.cell? ⟨w14.heap.size, 4, none⟩ = some (.slice Agi Y.im.length cgi) := ext_cell hb (cell_old q15_7 _)
       have q16_8 : w16.cell? ⟨w14.heap.size, 5, none⟩ = some (.int .i64 Y.be) := ext_cell hb (cell_old q15_8 _)
       have q16_9 : w16.cell? ⟨w14.heap.size, 6, none⟩ = some (.int .i64 Y.gu) := ext_cell hb (cell_old q15_9 _)
       have q16_10 : w16.cell? ⟨w15.heap.size, 0, none⟩ = some (.int .i64 Y.u) := ext_cell hb (by simp [go_sem])
       have q16_11 : w16.cell? ⟨w15.heap.size, 1, none⟩ = some (.int .i64 Y.lo) := ext_cell hb (by simp [go_sem])
       have q16_12 : w16.cell? ⟨w15.heap.size, 2, none⟩ = some (.slice Awa Y.l.length cwa) := ext_cell hb (by simp [go_sem])
       have q16_13 : w16.cell? ⟨w15.heap.size, 3, none⟩ = some (.slice Awk Y.cl.length cwk) := ext_cell hb (by simp [go_sem])
       have q16_14 : w16.cell? ⟨w15.heap.size, 4, none⟩ = some (.slice Awi Y.im.length cwi) := ext_cell hb (by simp [go_sem])
       have q16_15 : w16.cell? ⟨w15.heap.size, 5, none⟩ = some (.int .i64 Y.be) := ext_cell hb (by simp [go_sem])
       have q16_16 : w16.cell? ⟨w15.heap.size, 6, none⟩ = some (.int .i64 Y.gu) := ext_cell hb (by simp [go_sem])
       have b16 := Lib.hid (ext_trans (ext_alloc b15.out _) hb)
       have t16 : w.heap.size ≤ w16.heap.size := b16.out.size
       have o16_s := Lib.hid (own_ext (o15_s.out.alloc _) hb)
       have o16_ga := Lib.hid (own_ext (o15_ga.out.alloc _) hb)
       have o16_gk := Lib.hid (own_ext (o15_gk.out.alloc _) hb)
       have o16_gi := Lib.hid (own_ext (o15_gi.out.alloc _) hb)
       have o16_wa := Lib.hid (own_ext (oc_wa.out.alloc _) hb)
       have o16_wk := Lib.hid (own_ext (oc_wk.out.alloc _) hb)
       have o16_wi := Lib.hid (own_ext (oc_wi.out.alloc _) hb)
       clear q15_0 q15_1 q15_2 q15_3 q15_4 q15_5 q15_6 q15_7 q15_8 q15_9
       clear hb
       rcases ok with _ | _
       · go_wp2_with fail
         go_ret
         exact ⟨rfl, b16.out⟩
       obtain ⟨hfr, hnim, hwr, hok⟩ := HLAW.out rfl
       have HI := Lib.hid (fun (w : World) a b d => implNumberInMind_any Y.u Y.lo Aga Y.l.length cga Y.l Agk Y.cl.length cgk Y.cl Agi Y.im.length cgi Y.im Y.be Y.gu w hN1 hN2 hN3 a b d)
       have HW := Lib.hid (fun (w : World) a b d => implWrongRods_any Y.u Y.lo Aga Y.l.length cga Y.l Agk Y.cl.length cgk Y.cl Agi Y.im.length cgi Y.im Y.be Y.gu w hN1 hN2 hN3 a b d)
       have HF := Lib.hid (fun (w : World) h => implNumberOn_any u lo As l.length cs l w (by omega) h)
       rw [show nimO ⟨Y.u, Y.lo, Y.l, Y.cl, Y.im, Y.be, Y.gu⟩ = some (numR l) from hnim] at HI
       rw [show wrO ⟨Y.u, Y.lo, Y.l, Y.cl, Y.im, Y.be, Y.gu⟩ = [] from hwr, show mdOK ⟨Y.u, Y.lo, Y.l, Y.cl, Y.im, Y.be, Y.gu⟩ = true from hok] at HW
       rw [hfr, if_pos rfl] at HF
       unfold RetNim at HI
       unfold RetSliceB at HW
       dsimp only [Option.getD, Option.isSome, List.length] at HI HW
       have hnn : (numR l == numR l) = true := by simp
       clear hfr hnim hwr hok
       go_wp2_with fail
       refine (HI.out _ (Reads.of_own o16_ga.out) (Reads.of_own o16_gk.out) (Reads.of_own o16_gi.out)).mono ?_
       rintro e w17 ⟨rfl, hb⟩
       have s17 : w16.heap.size ≤ w17.heap.size := (by have := hb.size; (try simp at this); omega)
       have z17_0 : w13.heap.size < w17.heap.size := (by omega)
       have z17_1 : w14.heap.size < w17.heap.size := (by omega)
       have z17_2 : w15.heap.size < w17.heap.size := (by omega)
       have q17_0 : w17.cell? ⟨w13.heap.size, 0, none⟩ = some (.int .i64 u) := ext_cell hb q16_0
       have q17_1 : w17.cell? ⟨w13.heap.size, 1, none⟩ = some (.int .i64 lo) := ext_cell hb q16_1
       have q17_2 : w17.cell? ⟨w13.heap.size, 2, none⟩ = some (.slice As l.length cs) := ext_cell hb q16_2
       have q17_3 : w17.cell? ⟨w14.heap.size, 0, none⟩ = some (.int .i64 Y.u) := ext_cell hb q16_3
       have q17_4 : w17.cell? ⟨w14.heap.size, 1, none⟩ = some (.int .i64 Y.lo) := ext_cell hb q16_4
       have q17_5 : w17.cell? ⟨w14.heap.size, 2, none⟩ = some (.slice Aga Y.l.length cga) := ext_cell hb q16_5
       have q17_6 : w17.cell? ⟨w14.heap.size, 3, none⟩ = some (.slice Agk Y.cl.length cgk) := ext_cell hb q16_6
       have q17_7 : w17.cell? ⟨w14.heap.size, 4, none⟩ = some (.slice Agi Y.im.length cgi) := ext_cell hb q16_7
       have q17_8 : w17.cell? ⟨w14.heap.size, 5, none⟩ = some (.int .i64 Y.be) := ext_cell hb q16_8
       have q17_9 : w17.cell? ⟨w14.heap.size, 6, none⟩ = some (.int .i64 Y.gu) := ext_cell hb q16_9
       have q17_10 : w17.cell? ⟨w15.heap.size, 0, none⟩ = some (.int .i64 Y.u) := ext_cell hb q16_10
       have q17_11 : w17.cell? ⟨w15.heap.size, 1, none⟩ = some (.int .i64 Y.lo) := ext_cell hb q16_11
       have q17_12 : w17.cell? ⟨w15.heap.size, 2, none⟩ = some (.slice Awa Y.l.length cwa) := ext_cell hb q16_12
       have q17_13 : w17.cell? ⟨w15.heap.size, 3, none⟩ = some (.slice Awk Y.cl.length cwk) := ext_cell hb q16_13
       have q17_14 : w17.cell? ⟨w15.heap.size, 4, none⟩ = some (.slice Awi Y.im.length cwi) := ext_cell hb q16_14
       have q17_15 : w17.cell? ⟨w15.heap.size, 5, none⟩ = some (.int .i64 Y.be) := ext_cell hb q16_15
       have q17_16 : w17.cell? ⟨w15.heap.size, 6, none⟩ = some (.int .i64 Y.gu) := ext_cell hb q16_16
       have b17 := Lib.hid (ext_trans b16.out hb)
       have t17 : w.heap.size ≤ w17.heap.size := b17.out.size
       have o17_s := Lib.hid (own_ext o16_s.out hb)
       have o17_ga := Lib.hid (own_ext o16_ga.out hb)
       have o17_gk := Lib.hid (own_ext o16_gk.out hb)
       have o17_gi := Lib.hid (own_ext o16_gi.out hb)
       have o17_wa := Lib.hid (own_ext o16_wa.out hb)
       have o17_wk := Lib.hid (own_ext o16_wk.out hb)
       have o17_wi := Lib.hid (own_ext o16_wi.out hb)
       clear q16_0 q16_1 q16_2 q16_3 q16_4 q16_5 q16_6 q16_7 q16_8 q16_9 q16_10 q16_11 q16_12 q16_13 q16_14 q16_15 q16_16
       clear hb
       go_wp2_with fail
       refine (HF.out _ (Reads.of_own o17_s.out)).mono ?_
       rintro e w18 ⟨rfl, hb⟩
       have s18 : w17.heap.size ≤ w18.heap.size := (by have := hb.size; (try simp at this); omega)
       have z18_0 : w13.heap.size < w18.heap.size := (by omega)
       have z18_1 : w14.heap.size < w18.heap.size := (by omega)
       have z18_2 : w15.heap.size < w18.heap.size := (by omega)
       have q18_0 : w18.cell? ⟨w13.heap.size, 0, none⟩ = some (.int .i64 u) := ext_cell hb q17_0
       have q18_1 : w18.cell? ⟨w13.heap.size, 1, none⟩ = some (.int .i64 lo) := ext_cell hb q17_1
       have q18_2 : w18.cell? ⟨w13.heap.size, 2, none⟩ = some (.slice As l.length cs) := ext_cell hb q17_2
       have q18_3 : w18.cell? ⟨w14.heap.size, 0, none⟩ = some (.int .i64 Y.u) := ext_cell hb q17_3
       have q18_4 : w18.cell? ⟨w14.heap.size, 1, none⟩ = some (.int .i64 Y.lo) := ext_cell hb q17_4
       have q18_5 : w18.cell? ⟨w14.heap.size, 2, none⟩ = some (.slice Aga Y.l.length cga) := ext_cell hb q17_5
       have q18_6 : w18.cell? ⟨w14.heap.size, 3, none⟩ = some (.slice Agk Y.cl.length cgk) := ext_cell hb q17_6
       have q18_7 : w18.cell? ⟨w14.heap.size, 4, none⟩ = some (.slice Agi Y.im.length cgi) := ext_cell hb q17_7
       have q18_8 : w18.cell? ⟨w14.heap.size, 5, none⟩ = some (.int .i64 Y.be) := ext_cell hb q17_8
       have q18_9 : w18.cell? ⟨w14.heap.size, 6, none⟩ = some (.int .i64 Y.gu) := ext_cell hb q17_9
       have q18_10 : w18.cell? ⟨w15.heap.size, 0, none⟩ = some (.int .i64 Y.u) := ext_cell hb q17_10
       have q18_11 : w18.cell? ⟨w15.heap.size, 1, none⟩ = some (.int .i64 Y.lo) := ext_cell hb q17_11
       have q18_12 : w18.cell? ⟨w15.heap.size, 2, none⟩ = some (.slice Awa Y.l.length cwa) := ext_cell hb q17_12
       have q18_13 : w18.cell? ⟨w15.heap.size, 3, none⟩ = some (.slice Awk Y.cl.length cwk) := ext_cell hb q17_13
       have q18_14 : w18.cell? ⟨w15.heap.size, 4, none⟩ = some (.slice Awi Y.im.length cwi) := ext_cell hb q17_14
       have q18_15 : w18.cell? ⟨w15.heap.size, 5, none⟩ = some (.int .i64 Y.be) := ext_cell hb q17_15
       have q18_16 : w18.cell? ⟨w15.heap.size, 6, none⟩ = some (.int .i64 Y.gu) := ext_cell hb q17_16
       have b18 := Lib.hid (ext_trans b17.out hb)
       have t18 : w.heap.size ≤ w18.heap.size := b18.out.size
       have o18_s := Lib.hid (own_ext o17_s.out hb)
       have o18_ga := Lib.hid (own_ext o17_ga.out hb)
       have o18_gk := Lib.hid (own_ext o17_gk.out hb)
       have o18_gi := Lib.hid (own_ext o17_gi.out hb)
       have o18_wa := Lib.hid (own_ext o17_wa.out hb)
       have o18_wk := Lib.hid (own_ext o17_wk.out hb)
       have o18_wi := Lib.hid (own_ext o17_wi.out hb)
       clear q17_0 q17_1 q17_2 q17_3 q17_4 q17_5 q17_6 q17_7 q17_8 q17_9 q17_10 q17_11 q17_12 q17_13 q17_14 q17_15 q17_16
       clear hb
       go_wp2_with fail
       refine (HW.out _ (Reads.of_own o18_ga.out) (Reads.of_own o18_gk.out) (Reads.of_own o18_gi.out)).mono ?_
       rintro e w19 ⟨Az, cz, rfl, ho_z, hb⟩
       have s19 : w18.heap.size ≤ w19.heap.size := (by have := hb.size; (try simp at this); omega)
       have z19_0 : w13.heap.size < w19.heap.size := (by omega)
       have z19_1 : w14.heap.size < w19.heap.size := (by omega)
       have z19_2 : w15.heap.size < w19.heap.size := (by omega)
       have q19_0 : w19.cell? ⟨w13.heap.size, 0, none⟩ = some (.int .i64 u) := ext_cell hb q18_0
       have q19_1 : w19.cell? ⟨w13.heap.size, 1, none⟩ = some (.int .i64 lo) := ext_cell hb q18_1
       have q19_2 : w19.cell? ⟨w13.heap.size, 2, none⟩ = some (.slice As l.length cs) := ext_cell hb q18_2
       have q19_3 : w19.cell? ⟨w14.heap.size, 0, none⟩ = some (.int .i64 Y.u) := ext_cell hb q18_3
       have q19_4 : w19.cell? ⟨w14.heap.size, 1, none⟩ = some (.int .i64 Y.lo) := ext_cell hb q18_4
       have q19_5 : w19.cell? ⟨w14.heap.size, 2, none⟩ = some (.slice Aga Y.l.length cga) := ext_cell hb q18_5
       have q19_6 : w19.cell? ⟨w14.heap.size, 3, none⟩ = some (.slice Agk Y.cl.length cgk) := ext_cell hb q18_6
       have q19_7 : w19.cell? ⟨w14.heap.size, 4, none⟩ = some (.slice Agi Y.im.length cgi) := ext_cell hb q18_7
       have q19_8 : w19.cell? ⟨w14.heap.size, 5, none⟩ = some (.int .i64 Y.be) := ext_cell hb q18_8
       have q19_9 : w19.cell? ⟨w14.heap.size, 6, none⟩ = some (.int .i64 Y.gu) := ext_cell hb q18_9
       have q19_10 : w19.cell? ⟨w15.heap.size, 0, none⟩ = some (.int .i64 Y.u) := ext_cell hb q18_10
       have q19_11 : w19.cell? ⟨w15.heap.size, 1, none⟩ = some (.int .i64 Y.lo) := ext_cell hb q18_11
       have q19_12 : w19.cell? ⟨w15.heap.size, 2, none⟩ = some (.slice Awa Y.l.length cwa) := ext_cell hb q18_12
       have q19_13 : w19.cell? ⟨w15.heap.size, 3, none⟩ = some (.slice Awk Y.cl.length cwk) := ext_cell hb q18_13
       have q19_14 : w19.cell? ⟨w15.heap.size, 4, none⟩ = some (.slice Awi Y.im.length cwi) := ext_cell hb q18_14
       have q19_15 : w19.cell? ⟨w15.heap.size, 5, none⟩ = some (.int .i64 Y.be) := ext_cell hb q18_15
       have q19_16 : w19.cell? ⟨w15.heap.size, 6, none⟩ = some (.int .i64 Y.gu) := ext_cell hb q18_16
       have b19 := Lib.hid (ext_trans b18.out hb)
       have t19 : w.heap.size ≤ w19.heap.size := b19.out.size
       have o19_s := Lib.hid (own_ext o18_s.out hb)
       have o19_ga := Lib.hid (own_ext o18_ga.out hb)
       have o19_gk := Lib.hid (own_ext o18_gk.out hb)
       have o19_gi := Lib.hid (own_ext o18_gi.out hb)
       have o19_wa := Lib.hid (own_ext o18_wa.out hb)
       have o19_wk := Lib.hid (own_ext o18_wk.out hb)
       have o19_wi := Lib.hid (own_ext o18_wi.out hb)
       clear q18_0 q18_1 q18_2 q18_3 q18_4 q18_5 q18_6 q18_7 q18_8 q18_9 q18_10 q18_11 q18_12 q18_13 q18_14 q18_15 q18_16
       have oc_z := Lib.hid (own_base (base' := w18.heap.size + 0) ho_z (by simp))
       clear ho_z
       clear hb
       go_wp2_with fail
       go_ret
       exact ⟨rfl, b19.out⟩
end Go.Proofs.Ytlkfffohjeoooaa
