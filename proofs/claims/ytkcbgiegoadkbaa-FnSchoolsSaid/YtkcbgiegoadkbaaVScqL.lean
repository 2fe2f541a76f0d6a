/- The law FnSchools, walked. -/
import Derived.Deep.CutBlock
import Derived.Test.YtkcbgiegoadkbaaVM7
import Derived.Test.YtkcbgiegoadkbaaVDrwR
import Derived.Test.YtkcbgiegoadkbaaVM8
import Derived.Test.YtkcbgiegoadkbaaVM5
import Derived.Test.YtkcbgiegoadkbaaVRunS
import Derived.Test.YtkcbgiegoadkbaaVM1
namespace Go.Proofs.Ytkcbgiegoadkbaa
open Go.RowKit
set_option linter.unusedVariables false
set_option linter.unusedSimpArgs false
theorem implRunO_any (day pa le : Int) (A : Option Addr) (n c : Nat) (l : List R5) (B : Option Addr) (m cb : Nat) (xs : List R3) (w : World) (hn : n ≤ 1048576) (hm : m ≤ 1048576) (hA : SlOk A n c) (h : Reads w w.heap.size 5 A n (rowsV l)) (hx : Reads w w.heap.size 3 B m (rowsV3 xs)) (hv : ∀ x ∈ xs, x.c ≤ 9223372036854775807) :
 Calls Try.prog 13 #[schV day A n c pa le, .slice B m cb] w (RetRun (rD (runB (day, l, pa, le) xs)) (rP (runB (day, l, pa, le) xs)) (rQ (runB (day, l, pa, le) xs)) (rM (runB (day, l, pa, le) xs)) (rL (runB (day, l, pa, le) xs)).length (rL (runB (day, l, pa, le) xs)) (runB (day, l, pa, le) xs).isSome w) :=
 (implRun_any day pa le A n c l B m cb xs w hn hm hA h hx hv).mono (by rintro e w' ⟨o, rfl, h⟩; exact h)
theorem specRunO_any (day pa le : Int) (A : Option Addr) (n c : Nat) (l : List R5) (B : Option Addr) (m cb : Nat) (xs : List R3) (w : World) (hn : n ≤ 1048576) (hm : m ≤ 1048576) (hA : SlOk A n c) (h : Reads w w.heap.size 5 A n (rowsV l)) (hx : Reads w w.heap.size 3 B m (rowsV3 xs)) :
 Calls Try.prog 14 #[schV day A n c pa le, .slice B m cb] w (RetRun (rD (runB (day, l, pa, le) xs)) (rP (runB (day, l, pa, le) xs)) (rQ (runB (day, l, pa, le) xs)) (rM (runB (day, l, pa, le) xs)) (rL (runB (day, l, pa, le) xs)).length (rL (runB (day, l, pa, le) xs)) (runB (day, l, pa, le) xs).isSome w) :=
 (specRun_any day pa le A n c l B m cb xs w hn hm hA h hx).mono (by rintro e w' ⟨o, rfl, h⟩; exact h)
theorem specIsSch_any (day pa le : Int) (A : Option Addr) (n c : Nat) (l : List R5) (w : World) (hn : n ≤ 1048576) (h : Reads w w.heap.size 5 A n (rowsV l)) :
 Calls Try.prog 10 #[schV day A n c pa le] w (fun e w' => e = .returned (.bool (schB day l pa le)) ∧ Below w.heap.size w w') := by
 have HI := Lib.hid (fun (w : World) h => l25Good_any day pa le A n c l w hn h)
 obtain ⟨b, hb⟩ : ∃ o9, schB day l pa le = o9 := ⟨_, rfl⟩
 rw [hb] at HI ⊢
 have H := Lib.hid (h.ext (ext_alloc (ext_refl w) (.cells #[.int .i64 day, .slice A n c, .int .i64 pa, .int .i64 le] 26)) (Nat.le_refl _))
 have hx := Lib.hid (ext_alloc (ext_refl w) (.cells #[.int .i64 day, .slice A n c, .int .i64 pa, .int .i64 le] 26))
 clear h hb
 go_enter Try.func10, Try.ntmps10
 go_wp2_with fail
 refine (HI.out _ (by first | exact H.out.more (by simp) | exact h)).mono ?_
 rintro e w1 ⟨rfl, hb⟩
 go_wp2
 go_ret
 exact ⟨rfl, by first | exact ext_trans hx.out hb | exact hb⟩
def RetNwS (day : Int) (w : World) (e : Ending) (w' : World) : Prop :=
 ∃ A c, e = .returned (.tuple #[schV (newD day) A 0 c 0 0, .bool (inB day 0 4000)]) ∧ w'.ownsRow w.heap.size 55 5 (.slice A 0 c) 0 [] ∧ Below w.heap.size w w'
theorem implNwS_any (day : Int) (w : World) : Calls Try.prog 16 #[.int .i64 day] w (RetNwS day w) := (implNewSchool_any day w).mono (by rintro e w' ⟨A, c, h1, h2, _, h3⟩; exact ⟨A, c, h1, h2, h3⟩)
theorem specNwS_any (day : Int) (w : World) : Calls Try.prog 17 #[.int .i64 day] w (RetNwS day w) := (specNewSchool_any day w).mono (by rintro e w' ⟨A, c, h1, h2, _, h3⟩; exact ⟨A, c, h1, h2, h3⟩)
def FsB (S : Nat) (N : Nat) (Dp Pp Qp : Int) (lp : List R5) (Ap : Option Addr) (cp : Nat) (s : R3) (b o j m cb : Nat) (Dz Pz Qz : Int) (Lz : List R5) (okk : Bool) (vs : Nat → Value) (wx : World) : Nat → Prop
 | 0 => vs 174 = schV Dp Ap lp.length cp Pp Qp
 | 1 => vs 175 = .slice (some ⟨b, o, none⟩) m cb
 | 2 => vs 176 = .int .i64 j
 | 3 => vs 177 = .pointer (some ⟨b, o + j * 3, none⟩)
 | 4 => vs 178 = .agg #[.int .i64 s.a, .int .i64 s.b, .int .i64 s.c]
 | 5 => ∃ (A2 : Option Addr) (c9 : Nat), vs 179 = .tuple #[schV Dz A2 Lz.length c9 Pz Qz, .bool okk] ∧ (wx.ownsRow S 55 5 (.slice A2 Lz.length c9) Lz.length (rowsV Lz))
 | 6 => ∃ (A2 : Option Addr) (c9 : Nat), vs 173 = .tuple #[schV Dz A2 Lz.length c9 Pz Qz, .bool okk] ∧ (wx.ownsRow S 55 5 (.slice A2 Lz.length c9) Lz.length (rowsV Lz))
 | 7 => ∃ (A2 : Option Addr) (c9 : Nat), vs 180 = schV Dz A2 Lz.length c9 Pz Qz ∧ (wx.ownsRow S 55 5 (.slice A2 Lz.length c9) Lz.length (rowsV Lz))
 | 8 => ∃ (A2 : Option Addr) (c9 : Nat), vs 181 = .bool okk
 | 9 => ∃ gB, vs 22 = .pointer (some ⟨gB, 0, none⟩) ∧ S ≤ gB ∧ ∃ cB0 cB1 cB2 cB3, Blk wx gB 26 #[cB0, cB1, cB2, cB3]
 | 10 => ∃ (gB : Nat) (A2 : Option Addr) (c9 : Nat), vs 22 = .pointer (some ⟨gB, 0, none⟩) ∧ S ≤ gB ∧ Blk wx gB 26 #[.int .i64 Dz, .slice A2 Lz.length c9, .int .i64 Pz, .int .i64 Qz] ∧ (wx.ownsRow S 55 5 (.slice A2 Lz.length c9) Lz.length (rowsV Lz))
 | 11 => ∃ (A2 : Option Addr) (c9 : Nat), vs 23 = .bool okk
 | _ => True
def FsBU : Nat → List Nat
 | 0 => [174]
 | 1 => [175]
 | 2 => [176]
 | 3 => [177]
 | 4 => [178]
 | 5 => [179]
 | 6 => [173]
 | 7 => [180]
 | 8 => [181]
 | 9 => [22]
 | 10 => [22]
 | 11 => [23]
 | _ => []
theorem FsB_ext {S : Nat} {N : Nat} {Dp Pp Qp : Int} {lp : List R5} {Ap : Option Addr} {cp : Nat} {s : R3} {b o j m cb : Nat} {Dz Pz Qz : Int} {Lz : List R5} {okk : Bool} {vs us : Nat → Value} {wx wy : World} {jN : Nat} (hGG : FsB S N Dp Pp Qp lp Ap cp s b o j m cb Dz Pz Qz Lz okk vs wx jN) (haG : ∀ d ∈ FsBU jN, us d = vs d) (hbG : Below wx.heap.size wx wy) : FsB S N Dp Pp Qp lp Ap cp s b o j m cb Dz Pz Qz Lz okk us wy jN := by
 match jN, hGG, haG with
 | 0, hGG, haG =>
   exact (haG 174 (by simp [FsBU])).trans hGG
 | 1, hGG, haG =>
   exact (haG 175 (by simp [FsBU])).trans hGG
 | 2, hGG, haG =>
   exact (haG 176 (by simp [FsBU])).trans hGG
 | 3, hGG, haG =>
   exact (haG 177 (by simp [FsBU])).trans hGG
 | 4, hGG, haG =>
   exact (haG 178 (by simp [FsBU])).trans hGG
 | 5, hGG, haG =>
   obtain ⟨xG0, xG1, eG, fG0⟩ := hGG
   exact ⟨xG0, xG1, (haG 179 (by simp [FsBU])).trans eG, own_ext fG0 hbG⟩
 | 6, hGG, haG =>
   obtain ⟨xG0, xG1, eG, fG0⟩ := hGG
   exact ⟨xG0, xG1, (haG 173 (by simp [FsBU])).trans eG, own_ext fG0 hbG⟩
 | 7, hGG, haG =>
   obtain ⟨xG0, xG1, eG, fG0⟩ := hGG
   exact ⟨xG0, xG1, (haG 180 (by simp [FsBU])).trans eG, own_ext fG0 hbG⟩
 | 8, hGG, haG =>
   obtain ⟨xG0, xG1, eG⟩ := hGG
   exact ⟨xG0, xG1, (haG 181 (by simp [FsBU])).trans eG⟩
 | 9, hGG, haG =>
   obtain ⟨gB, eG, hsG, cB0, cB1, cB2, cB3, hBG⟩ := hGG
   exact ⟨gB, (haG 22 (by simp [FsBU])).trans eG, hsG, cB0, cB1, cB2, cB3, hBG.ext hbG⟩
 | 10, hGG, haG =>
   obtain ⟨gB, xG0, xG1, eG, hsG, hBG, fG0⟩ := hGG
   exact ⟨gB, xG0, xG1, (haG 22 (by simp [FsBU])).trans eG, hsG, hBG.ext hbG, own_ext fG0 hbG⟩
 | 11, hGG, haG =>
   obtain ⟨xG0, xG1, eG⟩ := hGG
   exact ⟨xG0, xG1, (haG 23 (by simp [FsBU])).trans eG⟩
 | jN + 12, _, _ => trivial
theorem FsB_set {S : Nat} {N : Nat} {Dp Pp Qp : Int} {lp : List R5} {Ap : Option Addr} {cp : Nat} {s : R3} {b o j m cb : Nat} {Dz Pz Qz : Int} {Lz : List R5} {okk : Bool} {vs us : Nat → Value} {wx wy : World} {jN : Nat} (hGG : FsB S N Dp Pp Qp lp Ap cp s b o j m cb Dz Pz Qz Lz okk vs wx jN) (haG : ∀ d ∈ FsBU jN, us d = vs d) (hneG : jN ≠ 10) (hbG : KeepW 26 wx wy) : FsB S N Dp Pp Qp lp Ap cp s b o j m cb Dz Pz Qz Lz okk us wy jN := by
 match jN, hGG, haG, hneG with
 | 0, hGG, haG, hneG =>
   exact (haG 174 (by simp [FsBU])).trans hGG
 | 1, hGG, haG, hneG =>
   exact (haG 175 (by simp [FsBU])).trans hGG
 | 2, hGG, haG, hneG =>
   exact (haG 176 (by simp [FsBU])).trans hGG
 | 3, hGG, haG, hneG =>
   exact (haG 177 (by simp [FsBU])).trans hGG
 | 4, hGG, haG, hneG =>
   exact (haG 178 (by simp [FsBU])).trans hGG
 | 5, hGG, haG, hneG =>
   obtain ⟨xG0, xG1, eG, fG0⟩ := hGG
   exact ⟨xG0, xG1, (haG 179 (by simp [FsBU])).trans eG, hbG.own fG0 (by decide)⟩
 | 6, hGG, haG, hneG =>
   obtain ⟨xG0, xG1, eG, fG0⟩ := hGG
   exact ⟨xG0, xG1, (haG 173 (by simp [FsBU])).trans eG, hbG.own fG0 (by decide)⟩
 | 7, hGG, haG, hneG =>
   obtain ⟨xG0, xG1, eG, fG0⟩ := hGG
   exact ⟨xG0, xG1, (haG 180 (by simp [FsBU])).trans eG, hbG.own fG0 (by decide)⟩
 | 8, hGG, haG, hneG =>
   obtain ⟨xG0, xG1, eG⟩ := hGG
   exact ⟨xG0, xG1, (haG 181 (by simp [FsBU])).trans eG⟩
 | 9, hGG, haG, hneG =>
   obtain ⟨gB, eG, hsG, cB0, cB1, cB2, cB3, hBG⟩ := hGG
   obtain ⟨cs', hB', hz⟩ := hbG.2.2 gB _ hBG
   obtain ⟨d0, d1, d2, d3, rfl⟩ := arr4 (cs := cs') (by rw [hz]; rfl)
   exact ⟨gB, (haG 22 (by simp [FsBU])).trans eG, hsG, d0, d1, d2, d3, hB'⟩
 | 10, hGG, haG, hneG =>
   exact absurd rfl hneG
 | 11, hGG, haG, hneG =>
   obtain ⟨xG0, xG1, eG⟩ := hGG
   exact ⟨xG0, xG1, (haG 23 (by simp [FsBU])).trans eG⟩
 | jN + 12, _, _, _ => trivial
set_option maxRecDepth 100000 in
set_option maxHeartbeats 8000000 in
theorem law_FnSchools (A : Option Addr) (n c : Nat) (w : World) (h : Code w w.heap.size A n) (hn63 : n ≤ maxLen) :
 Calls Try.prog 3 #[.slice A n c] w fun e w' => e = .returned (.bool true) ∧ Below w.heap.size w w' := by
 have HV := Lib.hid (fun w => vBig_any A n c w)
 by_cases hbig : (65536 : Int) < n
 · rw [decide_eq_true hbig] at HV
   go_enter Try.func3, Try.ntmps3
   go_wp2_with (go_at_call 4; refine (HV.out _).mono ?_; rintro e w' ⟨rfl, hb⟩)
   go_ret
   exact ⟨rfl, (by repeat (first | exact ext_refl _ | assumption | refine ext_alloc ?_ _ | refine ext_drew ?_ | refine ext_drewN ?_ _ | refine ext_set ?_ (by simp <;> omega) _ | refine ext_trans ?_ (by assumption)))⟩
 · rw [decide_eq_false hbig] at HV
   have hn : n ≤ 65536 := by omega
   have H := Lib.hid h
   clear h hbig hn63
   go_enter Try.func3, Try.ntmps3
   go_wp2_with fail
   refine (HV.out _).mono ?_
   rintro e w1 ⟨rfl, hb⟩
   have s1 : w.heap.size ≤ w1.heap.size := (by have := hb.size; (try simp at this); omega)
   have b1 := Lib.hid (ext_trans (ext_refl w) hb)
   have t1 : w.heap.size ≤ w1.heap.size := b1.out.size
   clear hb
   go_wp2_with fail
   refine (drawStep_any A n c _ ((H.out.below b1.out).more b1.out.size) hn).mono ?_
   rintro e w2 ⟨D, P, Q, l, As, cs, k, id, v, rfl, hl9, hv, ho_s, hb⟩
   have s2 : w1.heap.size ≤ w2.heap.size := (by have := hb.size; (try simp at this); omega)
   have b2 := Lib.hid (ext_trans b1.out hb)
   have t2 : w.heap.size ≤ w2.heap.size := b2.out.size
   clear hb
   have oc_s := Lib.hid (own_base (base' := w1.heap.size + 0) ho_s (by simp))
   clear ho_s
   have hsl := slOk_own oc_s.out
   have hcp := own_cap2 oc_s.out
   have HB := Lib.hid (fun (w : World) h => (implStep_any D P Q k id v As l.length cs l w (by omega) hsl h (by omega)).mono (retUni (stpB D P Q l k id v) w))
   have HA := Lib.hid (fun (w : World) h => (specStep_any D P Q k id v As l.length cs l w (by omega) hcp hsl h).mono (retUni (stpB D P Q l k id v) w))
   have HIB := Lib.hid (fun (w : World) h => isSchool_any D P Q As l.length cs l w (by omega) h)
   have HIA := Lib.hid (fun (w : World) h => specIsSch_any D P Q As l.length cs l w (by omega) h)
   have HHM := Lib.hid (fun (w : World) h => implHours_any D P Q id As l.length cs l w (by omega) h)
   have hlaw := fun h => @fsc_step D P Q l k id v _ rfl h
   have hN := oL_len D P Q l k id v
   obtain ⟨O, hO⟩ : ∃ o9, stpB D P Q l k id v = o9 := ⟨_, rfl⟩
   rw [hO] at HA HB hlaw hN
   obtain ⟨Db, hDb⟩ : ∃ o9, oD O = o9 := ⟨_, rfl⟩
   obtain ⟨Pb, hPb⟩ : ∃ o9, oP O = o9 := ⟨_, rfl⟩
   obtain ⟨Qb, hQb⟩ : ∃ o9, oQ O = o9 := ⟨_, rfl⟩
   obtain ⟨Lb, hLb⟩ : ∃ o9, oL O = o9 := ⟨_, rfl⟩
   obtain ⟨ok, hok⟩ : ∃ o9, O.isSome = o9 := ⟨_, rfl⟩
   rw [hDb, hPb, hQb, hLb, hok] at HA HB hlaw
   rw [hLb] at hN
   obtain ⟨HM, hHM⟩ : ∃ o9, hmO D P Q l id = o9 := ⟨_, rfl⟩
   rw [hHM] at HHM hlaw
   obtain ⟨gs, hgs⟩ : ∃ o9, schB D l P Q = o9 := ⟨_, rfl⟩
   rw [hgs] at HIA HIB
   unfold RetUni at HA HB
   have HLAW := Lib.hid hlaw
   have k1 : (ok != ok) = false := by cases ok <;> rfl
   have k2 : (gs != gs) = false := by cases gs <;> rfl
   clear hO hDb hPb hQb hLb hok hHM hgs hlaw
   go_wp2_with fail
   refine (HB.out _ (Reads.of_own ((oc_s.out.alloc _).alloc _))).mono ?_
   rintro e w3 ⟨Ab, cb, rfl, ho_b, hb⟩
   have s3 : w2.heap.size + 2 ≤ w3.heap.size := (by have := hb.size; (try simp at this); omega)
   have z3_0 : w2.heap.size < w3.heap.size := (by omega)
   have z3_1 : w2.heap.size + 1 < w3.heap.size := (by omega)
   have q3_0 : w3.cell? ⟨w2.heap.size, 0, none⟩ = some (.int .i64 D) := ext_cell hb (by simp [go_sem])
   have q3_1 : w3.cell? ⟨w2.heap.size, 1, none⟩ = some (.slice As l.length cs) := ext_cell hb (by simp [go_sem])
   have q3_2 : w3.cell? ⟨w2.heap.size, 2, none⟩ = some (.int .i64 P) := ext_cell hb (by simp [go_sem])
   have q3_3 : w3.cell? ⟨w2.heap.size, 3, none⟩ = some (.int .i64 Q) := ext_cell hb (by simp [go_sem])
   have q3_4 : w3.cell? ⟨w2.heap.size + 1, 0, none⟩ = some (.int .i64 k) := ext_cell hb (by simp [go_sem])
   have q3_5 : w3.cell? ⟨w2.heap.size + 1, 1, none⟩ = some (.int .i64 id) := ext_cell hb (by simp [go_sem])
   have q3_6 : w3.cell? ⟨w2.heap.size + 1, 2, none⟩ = some (.int .i64 v) := ext_cell hb (by simp [go_sem])
   have b3 := Lib.hid (ext_trans (ext_alloc (ext_alloc b2.out _) _) hb)
   have t3 : w.heap.size ≤ w3.heap.size := b3.out.size
   have o3_s := Lib.hid (own_ext ((oc_s.out.alloc _).alloc _) hb)
   have oc_b := Lib.hid (own_base (base' := w2.heap.size + 2) ho_b (by simp))
   clear ho_b
   clear hb
   go_wp2_with fail
   refine (HA.out _ (Reads.of_own (o3_s.out.alloc _))).mono ?_
   rintro e w4 ⟨Aa, ca, rfl, ho_a, hb⟩
   have s4 : w3.heap.size + 1 ≤ w4.heap.size := (by have := hb.size; (try simp at this); omega)
   have z4_0 : w2.heap.size < w4.heap.size := (by omega)
   have z4_1 : w2.heap.size + 1 < w4.heap.size := (by omega)
   have z4_2 : w3.heap.size < w4.heap.size := (by omega)
   have q4_0 : w4.cell? ⟨w2.heap.size, 0, none⟩ = some (.int .i64 D) := ext_cell hb (cell_old q3_0 _)
   have q4_1 : w4.cell? ⟨w2.heap.size, 1, none⟩ = some (.slice As l.length cs) := ext_cell hb (cell_old q3_1 _)
   have q4_2 : w4.cell? ⟨w2.heap.size, 2, none⟩ = some (.int .i64 P) := ext_cell hb (cell_old q3_2 _)
   have q4_3 : w4.cell? ⟨w2.heap.size, 3, none⟩ = some (.int .i64 Q) := ext_cell hb (cell_old q3_3 _)
   have q4_4 : w4.cell? ⟨w2.heap.size + 1, 0, none⟩ = some (.int .i64 k) := ext_cell hb (cell_old q3_4 _)
   have q4_5 : w4.cell? ⟨w2.heap.size + 1, 1, none⟩ = some (.int .i64 id) := ext_cell hb (cell_old q3_5 _)
   have q4_6 : w4.cell? ⟨w2.heap.size + 1, 2, none⟩ = some (.int .i64 v) := ext_cell hb (cell_old q3_6 _)
   have q4_7 : w4.cell? ⟨w3.heap.size, 0, none⟩ = some (.int .i64 Db) := ext_cell hb (by simp [go_sem])
   have q4_8 : w4.cell? ⟨w3.heap.size, 1, none⟩ = some (.slice Ab Lb.length cb) := ext_cell hb (by simp [go_sem])
   have q4_9 : w4.cell? ⟨w3.heap.size, 2, none⟩ = some (.int .i64 Pb) := ext_cell hb (by simp [go_sem])
   have q4_10 : w4.cell? ⟨w3.heap.size, 3, none⟩ = some (.int .i64 Qb) := ext_cell hb (by simp [go_sem])
   have b4 := Lib.hid (ext_trans (ext_alloc b3.out _) hb)
   have t4 : w.heap.size ≤ w4.heap.size := b4.out.size
   have o4_s := Lib.hid (own_ext (o3_s.out.alloc _) hb)
   have o4_b := Lib.hid (own_ext (oc_b.out.alloc _) hb)
   clear q3_0 q3_1 q3_2 q3_3 q3_4 q3_5 q3_6
   have oc_a := Lib.hid (own_base (base' := w3.heap.size + 1) ho_a (by simp))
   clear ho_a
   clear hb
   obtain ⟨w5, hw5⟩ : ∃ x : World, x = (w4.alloc (.cells #[.int .i64 Db, .slice Aa Lb.length ca, .int .i64 Pb, .int .i64 Qb] 26)) := ⟨_, rfl⟩
   have hb : Below (w4.alloc (.cells #[.int .i64 Db, .slice Aa Lb.length ca, .int .i64 Pb, .int .i64 Qb] 26)).heap.size (w4.alloc (.cells #[.int .i64 Db, .slice Aa Lb.length ca, .int .i64 Pb, .int .i64 Qb] 26)) w5 := by rw [hw5]; exact ext_refl _
   have s5 : w4.heap.size + 1 ≤ w5.heap.size := (by have := hb.size; (try simp at this); omega)
   have z5_0 : w2.heap.size < w5.heap.size := (by omega)
   have z5_1 : w2.heap.size + 1 < w5.heap.size := (by omega)
   have z5_2 : w3.heap.size < w5.heap.size := (by omega)
   have z5_3 : w4.heap.size < w5.heap.size := (by omega)
   have q5_0 : w5.cell? ⟨w2.heap.size, 0, none⟩ = some (.int .i64 D) := ext_cell hb (cell_old q4_0 _)
   have q5_1 : w5.cell? ⟨w2.heap.size, 1, none⟩ = some (.slice As l.length cs) := ext_cell hb (cell_old q4_1 _)
   have q5_2 : w5.cell? ⟨w2.heap.size, 2, none⟩ = some (.int .i64 P) := ext_cell hb (cell_old q4_2 _)
   have q5_3 : w5.cell? ⟨w2.heap.size, 3, none⟩ = some (.int .i64 Q) := ext_cell hb (cell_old q4_3 _)
   have q5_4 : w5.cell? ⟨w2.heap.size + 1, 0, none⟩ = some (.int .i64 k) := ext_cell hb (cell_old q4_4 _)
   have q5_5 : w5.cell? ⟨w2.heap.size + 1, 1, none⟩ = some (.int .i64 id) := ext_cell hb (cell_old q4_5 _)
   have q5_6 : w5.cell? ⟨w2.heap.size + 1, 2, none⟩ = some (.int .i64 v) := ext_cell hb (cell_old q4_6 _)
   have q5_7 : w5.cell? ⟨w3.heap.size, 0, none⟩ = some (.int .i64 Db) := ext_cell hb (cell_old q4_7 _)
   have q5_8 : w5.cell? ⟨w3.heap.size, 1, none⟩ = some (.slice Ab Lb.length cb) := ext_cell hb (cell_old q4_8 _)
   have q5_9 : w5.cell? ⟨w3.heap.size, 2, none⟩ = some (.int .i64 Pb) := ext_cell hb (cell_old q4_9 _)
   have q5_10 : w5.cell? ⟨w3.heap.size, 3, none⟩ = some (.int .i64 Qb) := ext_cell hb (cell_old q4_10 _)
   have q5_11 : w5.cell? ⟨w4.heap.size, 0, none⟩ = some (.int .i64 Db) := ext_cell hb (by simp [go_sem])
   have q5_12 : w5.cell? ⟨w4.heap.size, 1, none⟩ = some (.slice Aa Lb.length ca) := ext_cell hb (by simp [go_sem])
   have q5_13 : w5.cell? ⟨w4.heap.size, 2, none⟩ = some (.int .i64 Pb) := ext_cell hb (by simp [go_sem])
   have q5_14 : w5.cell? ⟨w4.heap.size, 3, none⟩ = some (.int .i64 Qb) := ext_cell hb (by simp [go_sem])
   have b5 := Lib.hid (ext_trans (ext_alloc b4.out _) hb)
   have t5 : w.heap.size ≤ w5.heap.size := b5.out.size
   have o5_s := Lib.hid (own_ext (o4_s.out.alloc _) hb)
   have o5_b := Lib.hid (own_ext (o4_b.out.alloc _) hb)
   have o5_a := Lib.hid (own_ext (oc_a.out.alloc _) hb)
   clear q4_0 q4_1 q4_2 q4_3 q4_4 q4_5 q4_6 q4_7 q4_8 q4_9 q4_10
   clear hb
   go_upto_region 6 with fail
   rw [← hw5]
   clear hw5
   skip
   go_cut [71] (fun s71 wx => s71 = .bool false ∧ Below w5.heap.size w5 wx)
   case first => as_aux_lemma =>
    have HIO := Lib.hid (fun (w : World) (Ao : Option Addr) (co : Nat) h => isSchool_any Db Pb Qb Ao Lb.length co Lb w (by omega) h)
    have HV1 := Lib.hid (fun (m9 : Later w5) => vSchool_same Db Pb Qb Ab Aa Lb.length cb ca Lb m9.world (by omega) (Reads.of_own (own_ext o5_b.out m9.h)) (Reads.of_own (own_ext o5_a.out m9.h)))
    have HV2 := Lib.hid (fun (m9 : Later w5) => HIB.out m9.world (Reads.of_own (own_ext o5_s.out m9.h)))
    have HV3 := Lib.hid (fun (m9 : Later w5) => HIA.out m9.world (Reads.of_own (own_ext o5_s.out m9.h)))
    have HV4 := Lib.hid (fun (m9 : Later w5) => HIO.out m9.world Ab cb (Reads.of_own (own_ext o5_b.out m9.h)))
    rcases ok with _ | _
    all_goals
     try (have hY := (HLAW.out rfl).1)
     try (rw [hY] at HV4)
     (refine wp_region_later (by kernel_rfl) (by kernel_rfl) ?_; (repeat (go_big_quiet_step (first | (go_at_call 8; with_reducible exact Calls.later_of (HV1.out _)) | (go_at_call 9; with_reducible exact Calls.later_of (HV2.out _)) | (go_at_call 10; with_reducible exact Calls.later_of (HV3.out _)) | (go_at_call 9; with_reducible exact Calls.later_of (HV4.out _))))); refine wpQuiet_nil ?_; intro wA hw1; obtain ⟨⟨wl, hb⟩, hw1'⟩ := hw1; simp only at hw1'; subst hw1')
     go_wp2_with fail
     go_meet
     exact ⟨rfl, hb⟩
   case rest => as_aux_lemma =>
    obtain ⟨rfl, hb⟩ := hcut
    obtain ⟨w6, hw6⟩ : ∃ x : World, x = wc := ⟨_, rfl⟩
    subst hw6
    have s6 : w5.heap.size ≤ w6.heap.size := (by have := hb.size; (try simp at this); omega)
    have z6_0 : w2.heap.size < w6.heap.size := (by omega)
    have z6_1 : w2.heap.size + 1 < w6.heap.size := (by omega)
    have z6_2 : w3.heap.size < w6.heap.size := (by omega)
    have z6_3 : w4.heap.size < w6.heap.size := (by omega)
    have q6_0 : w6.cell? ⟨w2.heap.size, 0, none⟩ = some (.int .i64 D) := ext_cell hb q5_0
    have q6_1 : w6.cell? ⟨w2.heap.size, 1, none⟩ = some (.slice As l.length cs) := ext_cell hb q5_1
    have q6_2 : w6.cell? ⟨w2.heap.size, 2, none⟩ = some (.int .i64 P) := ext_cell hb q5_2
    have q6_3 : w6.cell? ⟨w2.heap.size, 3, none⟩ = some (.int .i64 Q) := ext_cell hb q5_3
    have q6_4 : w6.cell? ⟨w2.heap.size + 1, 0, none⟩ = some (.int .i64 k) := ext_cell hb q5_4
    have q6_5 : w6.cell? ⟨w2.heap.size + 1, 1, none⟩ = some (.int .i64 id) := ext_cell hb q5_5
    have q6_6 : w6.cell? ⟨w2.heap.size + 1, 2, none⟩ = some (.int .i64 v) := ext_cell hb q5_6
    have q6_7 : w6.cell? ⟨w3.heap.size, 0, none⟩ = some (.int .i64 Db) := ext_cell hb q5_7
    have q6_8 : w6.cell? ⟨w3.heap.size, 1, none⟩ = some (.slice Ab Lb.length cb) := ext_cell hb q5_8
    have q6_9 : w6.cell? ⟨w3.heap.size, 2, none⟩ = some (.int .i64 Pb) := ext_cell hb q5_9
    have q6_10 : w6.cell? ⟨w3.heap.size, 3, none⟩ = some (.int .i64 Qb) := ext_cell hb q5_10
    have q6_11 : w6.cell? ⟨w4.heap.size, 0, none⟩ = some (.int .i64 Db) := ext_cell hb q5_11
    have q6_12 : w6.cell? ⟨w4.heap.size, 1, none⟩ = some (.slice Aa Lb.length ca) := ext_cell hb q5_12
    have q6_13 : w6.cell? ⟨w4.heap.size, 2, none⟩ = some (.int .i64 Pb) := ext_cell hb q5_13
    have q6_14 : w6.cell? ⟨w4.heap.size, 3, none⟩ = some (.int .i64 Qb) := ext_cell hb q5_14
    have b6 := Lib.hid (ext_trans b5.out hb)
    have t6 : w.heap.size ≤ w6.heap.size := b6.out.size
    have o6_s := Lib.hid (own_ext o5_s.out hb)
    have o6_b := Lib.hid (own_ext o5_b.out hb)
    have o6_a := Lib.hid (own_ext o5_a.out hb)
    clear q5_0 q5_1 q5_2 q5_3 q5_4 q5_5 q5_6 q5_7 q5_8 q5_9 q5_10 q5_11 q5_12 q5_13 q5_14
    clear hb
    go_upto_region 8 with fail
    go_cut [79] (fun s9 wx => ∃ b9 : Bool, s9 = .bool b9 ∧ (b9 = true → ok = true ∧ P < Pb) ∧ w6 = wx)
    case first => as_aux_lemma =>
     rcases ok with _ | _
     · go_wp2_with fail
       go_meet
       exact ⟨_, rfl, (fun h => by cases h), rfl⟩
     · by_cases hpp : P < Pb
       · go_wp2_with fail
         go_meet
         exact ⟨_, rfl, (fun _ => ⟨by first | rfl | trivial, hpp⟩), rfl⟩
       · go_wp2_with fail
         go_meet
         exact ⟨_, rfl, (fun h => by first | (cases h; done) | (simp at h; omega)), rfl⟩
    case rest => as_aux_lemma =>
     obtain ⟨b9, rfl, hb9, rfl⟩ := hcut
     go_upto_if 79 with fail
     go_cut [79] (fun s9 wx => Below w6.heap.size w6 wx)
     case first => as_aux_lemma =>
      rcases b9 with _ | _
      · go_wp2_with fail
        go_meet
        exact ext_refl _
      obtain ⟨rfl, hpp⟩ := hb9 rfl
      obtain ⟨_, hx, _, hpb, _, _⟩ := HLAW.out rfl
      obtain ⟨hk4, hv7, hm, hp1⟩ := hx hpp
      rw [hm] at HHM
      unfold ParRet at HHM
      (try dsimp only [Option.getD, Option.isSome] at HHM)
      subst hk4
      have e1 : ¬ v < 70 := by omega
      have e2 : IntKind.i64.wrap (P + 1) = P + 1 := by rw [IntKind.wrap_i64]; omega
      have e3 : (Pb != P + 1) = false := by simp [hp1]
      clear hb9 hpp hx hpb hm hp1
      go_wp2_with fail
      refine (HHM.out _ (Reads.of_own o6_s.out)).mono ?_
      rintro e w' ⟨rfl, hb⟩
      have y0 := ext_cell hb q6_0
      have y1 := ext_cell hb q6_1
      have y2 := ext_cell hb q6_2
      have y3 := ext_cell hb q6_3
      have y4 := ext_cell hb q6_4
      have y5 := ext_cell hb q6_5
      have y6 := ext_cell hb q6_6
      have y7 := ext_cell hb q6_7
      have y8 := ext_cell hb q6_8
      have y9 := ext_cell hb q6_9
      have y10 := ext_cell hb q6_10
      have y11 := ext_cell hb q6_11
      have y12 := ext_cell hb q6_12
      have y13 := ext_cell hb q6_13
      have y14 := ext_cell hb q6_14
      have yz0 : w2.heap.size < w'.heap.size := by have := hb.size; omega
      have yz1 : w2.heap.size + 1 < w'.heap.size := by have := hb.size; omega
      have yz2 : w3.heap.size < w'.heap.size := by have := hb.size; omega
      have yz3 : w4.heap.size < w'.heap.size := by have := hb.size; omega
      go_wp2_with fail
      go_meet
      exact hb
     case rest => as_aux_lemma =>
      have hb := hcut
      clear hcut hb9
      obtain ⟨w7, hw7⟩ : ∃ x : World, x = wc := ⟨_, rfl⟩
      subst hw7
      have s7 : w6.heap.size ≤ w7.heap.size := (by have := hb.size; (try simp at this); omega)
      have z7_0 : w2.heap.size < w7.heap.size := (by omega)
      have z7_1 : w2.heap.size + 1 < w7.heap.size := (by omega)
      have z7_2 : w3.heap.size < w7.heap.size := (by omega)
      have z7_3 : w4.heap.size < w7.heap.size := (by omega)
      have q7_0 : w7.cell? ⟨w2.heap.size, 0, none⟩ = some (.int .i64 D) := ext_cell hb q6_0
      have q7_1 : w7.cell? ⟨w2.heap.size, 1, none⟩ = some (.slice As l.length cs) := ext_cell hb q6_1
      have q7_2 : w7.cell? ⟨w2.heap.size, 2, none⟩ = some (.int .i64 P) := ext_cell hb q6_2
      have q7_3 : w7.cell? ⟨w2.heap.size, 3, none⟩ = some (.int .i64 Q) := ext_cell hb q6_3
      have q7_4 : w7.cell? ⟨w2.heap.size + 1, 0, none⟩ = some (.int .i64 k) := ext_cell hb q6_4
      have q7_5 : w7.cell? ⟨w2.heap.size + 1, 1, none⟩ = some (.int .i64 id) := ext_cell hb q6_5
      have q7_6 : w7.cell? ⟨w2.heap.size + 1, 2, none⟩ = some (.int .i64 v) := ext_cell hb q6_6
      have q7_7 : w7.cell? ⟨w3.heap.size, 0, none⟩ = some (.int .i64 Db) := ext_cell hb q6_7
      have q7_8 : w7.cell? ⟨w3.heap.size, 1, none⟩ = some (.slice Ab Lb.length cb) := ext_cell hb q6_8
      have q7_9 : w7.cell? ⟨w3.heap.size, 2, none⟩ = some (.int .i64 Pb) := ext_cell hb q6_9
      have q7_10 : w7.cell? ⟨w3.heap.size, 3, none⟩ = some (.int .i64 Qb) := ext_cell hb q6_10
      have q7_11 : w7.cell? ⟨w4.heap.size, 0, none⟩ = some (.int .i64 Db) := ext_cell hb q6_11
      have q7_12 : w7.cell? ⟨w4.heap.size, 1, none⟩ = some (.slice Aa Lb.length ca) := ext_cell hb q6_12
      have q7_13 : w7.cell? ⟨w4.heap.size, 2, none⟩ = some (.int .i64 Pb) := ext_cell hb q6_13
      have q7_14 : w7.cell? ⟨w4.heap.size, 3, none⟩ = some (.int .i64 Qb) := ext_cell hb q6_14
      have b7 := Lib.hid (ext_trans b6.out hb)
      have t7 : w.heap.size ≤ w7.heap.size := b7.out.size
      have o7_s := Lib.hid (own_ext o6_s.out hb)
      have o7_b := Lib.hid (own_ext o6_b.out hb)
      have o7_a := Lib.hid (own_ext o6_a.out hb)
      clear q6_0 q6_1 q6_2 q6_3 q6_4 q6_5 q6_6 q6_7 q6_8 q6_9 q6_10 q6_11 q6_12 q6_13 q6_14
      clear hb
      go_upto_region 12 with fail
      go_cut [131] (fun s9 wx => s9 = .bool false ∧ w7 = wx)
      case first => as_aux_lemma =>
       rcases ok with _ | _
       · go_wp2_with fail
         go_meet
         exact ⟨rfl, rfl⟩
       · obtain ⟨_, _, hx, _, hq0, hq1⟩ := HLAW.out rfl
         have e1 : IntKind.i64.wrap ((l.length : Int) + Q) = (l.length : Int) + Q := by rw [IntKind.wrap_i64]; omega
         have e2 : IntKind.i64.wrap ((Lb.length : Int) + Qb) = (Lb.length : Int) + Qb := by rw [IntKind.wrap_i64]; omega
         obtain ⟨T1, hT1⟩ : ∃ o9, (l.length : Int) + Q = o9 := ⟨_, rfl⟩
         obtain ⟨T2, hT2⟩ : ∃ o9, (Lb.length : Int) + Qb = o9 := ⟨_, rfl⟩
         rw [hT1, hT2] at hx
         rw [hT1] at e1
         rw [hT2] at e2
         by_cases hk2 : k = 2
         · subst hk2
           clear hx
           by_cases hT : T2 = T1
           · subst hT
             have e3 : (T2 != T2) = false := by simp
             go_wp2_with fail
             go_meet
             exact ⟨rfl, rfl⟩
           · have e3 : (T2 != T1) = true := by simpa using hT
             go_wp2_with fail
             go_meet
             exact ⟨rfl, rfl⟩
         · have hT := hx hk2
           subst hT
           have e3 : (T2 != T2) = false := by simp
           clear hx
           go_wp2_with fail
           go_meet
           exact ⟨rfl, rfl⟩
      case rest => as_aux_lemma =>
       obtain ⟨rfl, rfl⟩ := hcut
       clear HLAW HA HB HIA HIB HHM k1 k2 hl9 hv hsl hcp hN
       clear q7_0 q7_1 q7_2 q7_3 q7_4 q7_5 q7_6 q7_7 q7_8 q7_9 q7_10 q7_11 q7_12 q7_13 q7_14
       go_wp2_with fail
       refine (drawRun_any A n c _ ((H.out.below b7.out).more b7.out.size) hn).mono ?_
       rintro e w8 ⟨D1, P1, Q1, l1, Ay, cy, xs, Ax, cx, rfl, hl19, hx41, hxv, ho_y, ho_x, hb⟩
       have s8 : w7.heap.size ≤ w8.heap.size := (by have := hb.size; (try simp at this); omega)
       have b8 := Lib.hid (ext_trans b7.out hb)
       have t8 : w.heap.size ≤ w8.heap.size := b8.out.size
       clear hb
       have oc_y := Lib.hid (own_base (base' := w7.heap.size + 0) ho_y (by simp))
       clear ho_y
       have oc_x := Lib.hid (own_base (base' := w7.heap.size + 0) ho_x (by simp))
       clear ho_x
       have hsl := slOk_own oc_y.out
       have hcp := own_cap2 oc_y.out
       have HB := Lib.hid (fun (w : World) h hx => implRunO_any D1 P1 Q1 Ay l1.length cy l1 Ax xs.length cx xs w (by omega) (by omega) hsl h hx hxv)
       have HA := Lib.hid (fun (w : World) h hx => specRunO_any D1 P1 Q1 Ay l1.length cy l1 Ax xs.length cx xs w (by omega) (by omega) hsl h hx)
       have hN := rL_len (D1, l1, P1, Q1) xs
       have hlaw := fun h => @fsc_run (D1, l1, P1, Q1) xs _ rfl h
       obtain ⟨O, hO⟩ : ∃ o9, runB (D1, l1, P1, Q1) xs = o9 := ⟨_, rfl⟩
       rw [hO] at HA HB hlaw hN
       obtain ⟨Db, hDb⟩ : ∃ o9, rD O = o9 := ⟨_, rfl⟩
       obtain ⟨Pb, hPb⟩ : ∃ o9, rP O = o9 := ⟨_, rfl⟩
       obtain ⟨Qb, hQb⟩ : ∃ o9, rQ O = o9 := ⟨_, rfl⟩
       obtain ⟨Lb, hLb⟩ : ∃ o9, rL O = o9 := ⟨_, rfl⟩
       obtain ⟨Mb, hMb⟩ : ∃ o9, rM O = o9 := ⟨_, rfl⟩
       obtain ⟨ok, hok⟩ : ∃ o9, O.isSome = o9 := ⟨_, rfl⟩
       rw [hDb, hPb, hQb, hLb, hMb, hok] at HA HB hlaw
       rw [hLb] at hN
       unfold RetRun at HA HB
       have HLAW := Lib.hid hlaw
       have HXV := Lib.hid hxv
       have k1 : (ok != ok) = false := by cases ok <;> rfl
       have k2 : (Mb != Mb) = false := by simp
       clear hO hDb hPb hQb hLb hMb hok hlaw hxv
       go_wp2_with fail
       refine (HB.out _ (Reads.of_own (oc_y.out.alloc _)) (Reads.of_own (oc_x.out.alloc _))).mono ?_
       rintro e w9 ⟨Ab, cb, rfl, ho_b, hb⟩
       have s9 : w8.heap.size + 1 ≤ w9.heap.size := (by have := hb.size; (try simp at this); omega)
       have z9_0 : w8.heap.size < w9.heap.size := (by omega)
       have q9_0 : w9.cell? ⟨w8.heap.size, 0, none⟩ = some (.int .i64 D1) := ext_cell hb (by simp [go_sem])
       have q9_1 : w9.cell? ⟨w8.heap.size, 1, none⟩ = some (.slice Ay l1.length cy) := ext_cell hb (by simp [go_sem])
       have q9_2 : w9.cell? ⟨w8.heap.size, 2, none⟩ = some (.int .i64 P1) := ext_cell hb (by simp [go_sem])
       have q9_3 : w9.cell? ⟨w8.heap.size, 3, none⟩ = some (.int .i64 Q1) := ext_cell hb (by simp [go_sem])
       have b9 := Lib.hid (ext_trans (ext_alloc b8.out _) hb)
       have t9 : w.heap.size ≤ w9.heap.size := b9.out.size
       have o9_y := Lib.hid (own_ext (oc_y.out.alloc _) hb)
       have o9_x := Lib.hid (own_ext (oc_x.out.alloc _) hb)
       have oc_b := Lib.hid (own_base (base' := w8.heap.size + 1) ho_b (by simp))
       clear ho_b
       clear hb
       go_wp2_with fail
       refine (HA.out _ (Reads.of_own (o9_y.out.alloc _)) (Reads.of_own (o9_x.out.alloc _))).mono ?_
       rintro e w10 ⟨Aa, ca, rfl, ho_a, hb⟩
       have s10 : w9.heap.size + 1 ≤ w10.heap.size := (by have := hb.size; (try simp at this); omega)
       have z10_0 : w8.heap.size < w10.heap.size := (by omega)
       have z10_1 : w9.heap.size < w10.heap.size := (by omega)
       have q10_0 : w10.cell? ⟨w8.heap.size, 0, none⟩ = some (.int .i64 D1) := ext_cell hb (cell_old q9_0 _)
       have q10_1 : w10.cell? ⟨w8.heap.size, 1, none⟩ = some (.slice Ay l1.length cy) := ext_cell hb (cell_old q9_1 _)
       have q10_2 : w10.cell? ⟨w8.heap.size, 2, none⟩ = some (.int .i64 P1) := ext_cell hb (cell_old q9_2 _)
       have q10_3 : w10.cell? ⟨w8.heap.size, 3, none⟩ = some (.int .i64 Q1) := ext_cell hb (cell_old q9_3 _)
       have q10_4 : w10.cell? ⟨w9.heap.size, 0, none⟩ = some (.int .i64 Db) := ext_cell hb (by simp [go_sem])
       have q10_5 : w10.cell? ⟨w9.heap.size, 1, none⟩ = some (.slice Ab Lb.length cb) := ext_cell hb (by simp [go_sem])
       have q10_6 : w10.cell? ⟨w9.heap.size, 2, none⟩ = some (.int .i64 Pb) := ext_cell hb (by simp [go_sem])
       have q10_7 : w10.cell? ⟨w9.heap.size, 3, none⟩ = some (.int .i64 Qb) := ext_cell hb (by simp [go_sem])
       have b10 := Lib.hid (ext_trans (ext_alloc b9.out _) hb)
       have t10 : w.heap.size ≤ w10.heap.size := b10.out.size
       have o10_y := Lib.hid (own_ext (o9_y.out.alloc _) hb)
       have o10_x := Lib.hid (own_ext (o9_x.out.alloc _) hb)
       have o10_b := Lib.hid (own_ext (oc_b.out.alloc _) hb)
       clear q9_0 q9_1 q9_2 q9_3
       have oc_a := Lib.hid (own_base (base' := w9.heap.size + 1) ho_a (by simp))
       clear ho_a
       clear hb
       go_wp2_with fail
       refine (vSchool_same Db Pb Qb Ab Aa Lb.length cb ca Lb _ (by omega) (Reads.of_own (o10_b.out.alloc _)) (Reads.of_own (oc_a.out.alloc _))).mono ?_
       rintro e w11 ⟨rfl, hb⟩
       have s11 : w10.heap.size + 1 ≤ w11.heap.size := (by have := hb.size; (try simp at this); omega)
       have z11_0 : w8.heap.size < w11.heap.size := (by omega)
       have z11_1 : w9.heap.size < w11.heap.size := (by omega)
       have z11_2 : w10.heap.size < w11.heap.size := (by omega)
       have q11_0 : w11.cell? ⟨w8.heap.size, 0, none⟩ = some (.int .i64 D1) := ext_cell hb (cell_old q10_0 _)
       have q11_1 : w11.cell? ⟨w8.heap.size, 1, none⟩ = some (.slice Ay l1.length cy) := ext_cell hb (cell_old q10_1 _)
       have q11_2 : w11.cell? ⟨w8.heap.size, 2, none⟩ = some (.int .i64 P1) := ext_cell hb (cell_old q10_2 _)
       have q11_3 : w11.cell? ⟨w8.heap.size, 3, none⟩ = some (.int .i64 Q1) := ext_cell hb (cell_old q10_3 _)
       have q11_4 : w11.cell? ⟨w9.heap.size, 0, none⟩ = some (.int .i64 Db) := ext_cell hb (cell_old q10_4 _)
       have q11_5 : w11.cell? ⟨w9.heap.size, 1, none⟩ = some (.slice Ab Lb.length cb) := ext_cell hb (cell_old q10_5 _)
       have q11_6 : w11.cell? ⟨w9.heap.size, 2, none⟩ = some (.int .i64 Pb) := ext_cell hb (cell_old q10_6 _)
       have q11_7 : w11.cell? ⟨w9.heap.size, 3, none⟩ = some (.int .i64 Qb) := ext_cell hb (cell_old q10_7 _)
       have q11_8 : w11.cell? ⟨w10.heap.size, 0, none⟩ = some (.int .i64 Db) := ext_cell hb (by simp [go_sem])
       have q11_9 : w11.cell? ⟨w10.heap.size, 1, none⟩ = some (.slice Aa Lb.length ca) := ext_cell hb (by simp [go_sem])
       have q11_10 : w11.cell? ⟨w10.heap.size, 2, none⟩ = some (.int .i64 Pb) := ext_cell hb (by simp [go_sem])
       have q11_11 : w11.cell? ⟨w10.heap.size, 3, none⟩ = some (.int .i64 Qb) := ext_cell hb (by simp [go_sem])
       have b11 := Lib.hid (ext_trans (ext_alloc b10.out _) hb)
       have t11 : w.heap.size ≤ w11.heap.size := b11.out.size
       have o11_y := Lib.hid (own_ext (o10_y.out.alloc _) hb)
       have o11_x := Lib.hid (own_ext (o10_x.out.alloc _) hb)
       have o11_b := Lib.hid (own_ext (o10_b.out.alloc _) hb)
       have o11_a := Lib.hid (own_ext (oc_a.out.alloc _) hb)
       clear q10_0 q10_1 q10_2 q10_3 q10_4 q10_5 q10_6 q10_7
       clear hb
       go_upto_if 165 with fail
       go_cut [165] (fun s9 wx => Below w11.heap.size w11 wx)
       case first => as_aux_lemma =>
        rcases ok with _ | _
        · go_wp2_with fail
          go_meet
          exact ext_refl _
        obtain ⟨hQK, cfin, hrun, hMc⟩ := HLAW.out rfl
        have HQK := Lib.hid hQK
        have HRUN := Lib.hid hrun
        have HMC := Lib.hid hMc
        clear hQK hrun hMc
        obtain ⟨V0, hV0⟩ : ∃ y : World, y = w11.alloc (.cells #[.int .i64 D1, .slice Ay l1.length cy, .int .i64 P1, .int .i64 Q1] 26) := ⟨_, rfl⟩
        have BN0 := Lib.hid (show Blk V0 w11.heap.size 26 #[.int .i64 D1, .slice Ay l1.length cy, .int .i64 P1, .int .i64 Q1] by rw [hV0]; exact Blk.born w11 _ 26 (H := w11.heap.size) rfl)
        have HR0 := Lib.hid (show V0.ownsRow 0 55 5 (.slice Ay l1.length cy) l1.length (rowsV l1) by rw [hV0]; exact (own_base (base' := 0) o11_y.out (Nat.zero_le _)).alloc _)
        have HB0 := Lib.hid (show Below w11.heap.size w11 V0 by rw [hV0]; exact ext_alloc (ext_refl _) _)
        go_upto_region 21 with fail
        rw [← hV0]
        clear hV0

        go_wp2_with fail
        go_loopw [20, 21] (fun cc ii wr => ∃ (j ct : Nat) (Dp Pp Qp : Int) (lp : List R5) (Ap : Option Addr) (cp : Nat), j ≤ xs.length ∧ ii = .int .i64 (j : Int) ∧ cc = .int .i64 (ct : Int) ∧ ct ≤ j ∧ lp.length ≤ 9 ∧ Hid (runTo (D1, l1, P1, Q1) xs j = ((Dp, lp, Pp, Qp), ct)) ∧ Hid (Blk wr w11.heap.size 26 #[.int .i64 Dp, .slice Ap lp.length cp, .int .i64 Pp, .int .i64 Qp]) ∧ Hid (wr.ownsRow 0 55 5 (.slice Ap lp.length cp) lp.length (rowsV lp)) ∧ Hid (Below w11.heap.size w11 wr)) (fun _ ii _ => xs.length - (intOf ii).toNat)
        case atStart => exact ⟨0, 0, D1, P1, Q1, l1, Ay, cy, Nat.zero_le _, rfl, rfl, Nat.le_refl _, hl19, Lib.hid rfl, BN0, HR0, HB0⟩
        case round =>
         clear BN0 HR0 HB0
         obtain ⟨j, ct, Dp, Pp, Qp, lp, Ap, cp, hj, rfl, rfl, hcj, hlp9, HQ, BNr, HRr, HBr⟩ := hrel
         obtain ⟨V, hV⟩ : ∃ y : World, y = wr := ⟨_, rfl⟩
         subst hV
         obtain ⟨d0, d1, d2, d3⟩ := BNr.out.q4
         obtain ⟨z0, z1, z2, z3⟩ := BNr.out.z4
         have ln := BNr.out.lt
         by_cases hlt : j < xs.length
         · obtain ⟨s, hs⟩ := list_split (l := xs) (k := j) hlt
           obtain ⟨b, o, hA, hb', c0, c1, c2⟩ := rows_at3 (Reads.of_own (own_ext o11_x.out HBr.out)) hs
           subst hA
           have e2 : (j : Int) < (xs.length : Int) := by omega
           have hsv := HXV.out s (List.mem_of_getElem? hs)
           have hsl2 := slOk_own HRr.out
           have HST := Lib.hid (fun (w : World) h => (implStep_any Dp Pp Qp s.a s.b s.c Ap lp.length cp lp w (by omega) hsl2 h (by omega)).mono (retUni (stpB Dp Pp Qp lp s.a s.b s.c) w))
           have hrn := fsc_next HQ.out HQK.out hs rfl
           have hzl := oL_len Dp Pp Qp lp s.a s.b s.c
           obtain ⟨O2, hO2⟩ : ∃ o9, stpB Dp Pp Qp lp s.a s.b s.c = o9 := ⟨_, rfl⟩
           rw [hO2] at HST hrn hzl
           obtain ⟨Dz, hDz⟩ : ∃ o9, oD O2 = o9 := ⟨_, rfl⟩
           obtain ⟨Pz, hPz⟩ : ∃ o9, oP O2 = o9 := ⟨_, rfl⟩
           obtain ⟨Qz, hQz⟩ : ∃ o9, oQ O2 = o9 := ⟨_, rfl⟩
           obtain ⟨Lz, hLz⟩ : ∃ o9, oL O2 = o9 := ⟨_, rfl⟩
           obtain ⟨okk, hokk⟩ : ∃ o9, O2.isSome = o9 := ⟨_, rfl⟩
           rw [hDz, hPz, hQz, hLz, hokk] at HST hrn
           rw [hLz] at hzl
           unfold RetUni at HST
           have HRN := Lib.hid hrn
           clear hs hrn hO2 hDz hPz hQz hLz hokk hsl2 hsv
           go_upto_region 24 with fail
           refine wp_region_left (by kernel_rfl) (by kernel_rfl) [22, 23, 173, 174, 175, 176, 177, 178, 179, 180, 181] FsBU (by kernel_rfl) (by decide) 186 (by kernel_rfl) (by simp) (fun ra0 => ra0.eval (.tmp 12) = .slice (some ⟨b, o, none⟩) xs.length cx ∧ ra0.eval (.tmp 19) = .pointer (some ⟨w11.heap.size, 0, none⟩) ∧ ra0.eval (.tmp 21) = .int .i64 j) ⟨by kernel_rfl, by kernel_rfl, by kernel_rfl⟩ (fun _ wx => Below V.heap.size V wx) (fun wx wy => Below wx.heap.size wx wy) 10 (KeepW 26) (fun jN vs wx => FsB V.heap.size w11.heap.size Dp Pp Qp lp Ap cp s b o j xs.length cx Dz Pz Qz Lz okk vs wx jN) ((ext_refl V).drew) (fun _ _ _ _ _ h1 h2 h3 => FsB_ext h1 h2 h3) (fun _ _ _ _ _ h0 h1 h2 h3 => FsB_set h1 h2 h0 h3) ?_ ?_
           · intro ra0 hE ri ro ho Qx vs wx rb KX kk HBw hdep rb0 rbk HK
             repeat (rename_i hz9; clear hz9)
             obtain ⟨rq12, rq19, rq21⟩ := hE
             have hi : ri < 12 := by
              rcases Nat.lt_or_ge ri 12 with h | h
              · exact h
              · rw [Array.getElem?_eq_none (by simpa using h)] at ho; cases ho
             have HBX := Lib.hid HBw
             have hsz := HBw.size
             clear HBw
             rcases (show ri = 0 ∨ ri = 1 ∨ ri = 2 ∨ ri = 3 ∨ ri = 4 ∨ ri = 5 ∨ ri = 6 ∨ ri = 7 ∨ ri = 8 ∨ ri = 9 ∨ ri = 10 ∨ ri = 11 by omega) with rfl | rfl | rfl | rfl | rfl | rfl | rfl | rfl | rfl | rfl | rfl | rfl
             · simp only [List.getElem?_toArray, List.getElem?_cons_succ, List.getElem?_cons_zero, Option.some.injEq] at ho
               subst ho
               have HKX := Lib.hid HK
               clear HK
               have p19 := (rb0 19 (by decide)).trans rq19
               have t0 := ext_cell HBX.out d0
               have t1 := ext_cell HBX.out d1
               have t2 := ext_cell HBX.out d2
               have t3 := ext_cell HBX.out d3
               have lnx : w11.heap.size < wx.heap.size := Nat.lt_of_lt_of_le ln hsz
               have u0 := ext_cell HBX.out c0
               have u1 := ext_cell HBX.out c1
               have u2 := ext_cell HBX.out c2
               have lbx : b < wx.heap.size := Nat.lt_of_lt_of_le hb' hsz
               clear rb0 rbk hdep
               go_simp
               exact HKX.out _ _ HBX.out (by rw [if_neg (by decide)]; exact ext_refl _) (upd_same _ _ _)
             · simp only [List.getElem?_toArray, List.getElem?_cons_succ, List.getElem?_cons_zero, Option.some.injEq] at ho
               subst ho
               have HKX := Lib.hid HK
               clear HK
               have p12 := (rb0 12 (by decide)).trans rq12
               have t0 := ext_cell HBX.out d0
               have t1 := ext_cell HBX.out d1
               have t2 := ext_cell HBX.out d2
               have t3 := ext_cell HBX.out d3
               have lnx : w11.heap.size < wx.heap.size := Nat.lt_of_lt_of_le ln hsz
               have u0 := ext_cell HBX.out c0
               have u1 := ext_cell HBX.out c1
               have u2 := ext_cell HBX.out c2
               have lbx : b < wx.heap.size := Nat.lt_of_lt_of_le hb' hsz
               clear rb0 rbk hdep
               go_simp
               exact HKX.out _ _ HBX.out (by rw [if_neg (by decide)]; exact ext_refl _) (upd_same _ _ _)
             · simp only [List.getElem?_toArray, List.getElem?_cons_succ, List.getElem?_cons_zero, Option.some.injEq] at ho
               subst ho
               have HKX := Lib.hid HK
               clear HK
               have p21 := (rb0 21 (by decide)).trans rq21
               have t0 := ext_cell HBX.out d0
               have t1 := ext_cell HBX.out d1
               have t2 := ext_cell HBX.out d2
               have t3 := ext_cell HBX.out d3
               have lnx : w11.heap.size < wx.heap.size := Nat.lt_of_lt_of_le ln hsz
               have u0 := ext_cell HBX.out c0
               have u1 := ext_cell HBX.out c1
               have u2 := ext_cell HBX.out c2
               have lbx : b < wx.heap.size := Nat.lt_of_lt_of_le hb' hsz
               clear rb0 rbk hdep
               go_simp
               exact HKX.out _ _ HBX.out (by rw [if_neg (by decide)]; exact ext_refl _) (upd_same _ _ _)
             · simp only [List.getElem?_toArray, List.getElem?_cons_succ, List.getElem?_cons_zero, Option.some.injEq] at ho
               subst ho
               have HKX := Lib.hid HK
               clear HK
               have e1 : vs 175 = .slice (some ⟨b, o, none⟩) xs.length cx := (hdep 1 (by kernel_rfl))
               have e2 : vs 176 = .int .i64 j := (hdep 2 (by kernel_rfl))
               have rr1 := (rbk 175 (by decide)).trans e1
               have rr2 := (rbk 176 (by decide)).trans e2
               have E1 := Lib.hid e1
               clear e1
               have E2 := Lib.hid e2
               clear e2
               clear rb0 rbk hdep
               go_simp
               exact HKX.out _ _ HBX.out (by rw [if_neg (by decide)]; exact ext_refl _) (upd_same _ _ _)
             · simp only [List.getElem?_toArray, List.getElem?_cons_succ, List.getElem?_cons_zero, Option.some.injEq] at ho
               subst ho
               have HKX := Lib.hid HK
               clear HK
               have e3 : vs 177 = .pointer (some ⟨b, o + j * 3, none⟩) := (hdep 3 (by kernel_rfl))
               have p12 := (rb0 12 (by decide)).trans rq12
               have rr3 := (rbk 177 (by decide)).trans e3
               have E3 := Lib.hid e3
               clear e3
               have t0 := ext_cell HBX.out d0
               have t1 := ext_cell HBX.out d1
               have t2 := ext_cell HBX.out d2
               have t3 := ext_cell HBX.out d3
               have lnx : w11.heap.size < wx.heap.size := Nat.lt_of_lt_of_le ln hsz
               have u0 := ext_cell HBX.out c0
               have u1 := ext_cell HBX.out c1
               have u2 := ext_cell HBX.out c2
               have lbx : b < wx.heap.size := Nat.lt_of_lt_of_le hb' hsz
               clear rb0 rbk hdep
               go_simp
               exact HKX.out _ _ HBX.out (by rw [if_neg (by decide)]; exact ext_refl _) (upd_same _ _ _)
             · simp only [List.getElem?_toArray, List.getElem?_cons_succ, List.getElem?_cons_zero, Option.some.injEq] at ho
               subst ho
               have HKX := Lib.hid HK
               clear HK
               have e0 : vs 174 = schV Dp Ap lp.length cp Pp Qp := (hdep 0 (by kernel_rfl))
               have e4 : vs 178 = .agg #[.int .i64 s.a, .int .i64 s.b, .int .i64 s.c] := (hdep 4 (by kernel_rfl))
               have rr0 := (rbk 174 (by decide)).trans e0
               have rr4 := (rbk 178 (by decide)).trans e4
               have E0 := Lib.hid e0
               clear e0
               have E4 := Lib.hid e4
               clear e4
               clear rb0 rbk hdep
               go_simp
               (with_reducible refine (HST.out _ (Reads.of_own (own_ext HRr.out HBX.out))).mono ?_)
               rintro e w' ⟨A2, c9, rfl, nF0, hb⟩
               go_simp
               exact HKX.out _ _ (ext_trans HBX.out hb) (by rw [if_neg (by decide)]; exact hb) (⟨A2, c9, upd_same _ _ _, own_base nF0 hsz⟩)
             · simp only [List.getElem?_toArray, List.getElem?_cons_succ, List.getElem?_cons_zero, Option.some.injEq] at ho
               subst ho
               have HKX := Lib.hid HK
               clear HK
               obtain ⟨A2, c9, e5, k5_0⟩ := (hdep 5 (by kernel_rfl))
               have rr5 := (rbk 179 (by decide)).trans e5
               have E5 := Lib.hid e5
               clear e5
               have K5_0 := Lib.hid k5_0
               clear k5_0
               clear rb0 rbk hdep
               go_simp
               exact HKX.out _ _ HBX.out (by rw [if_neg (by decide)]; exact ext_refl _) (⟨A2, c9, upd_same _ _ _, K5_0.out⟩)
             · simp only [List.getElem?_toArray, List.getElem?_cons_succ, List.getElem?_cons_zero, Option.some.injEq] at ho
               subst ho
               have HKX := Lib.hid HK
               clear HK
               obtain ⟨A2, c9, e6, k6_0⟩ := (hdep 6 (by kernel_rfl))
               have rr6 := (rbk 173 (by decide)).trans e6
               have E6 := Lib.hid e6
               clear e6
               have K6_0 := Lib.hid k6_0
               clear k6_0
               clear rb0 rbk hdep
               go_simp
               exact HKX.out _ _ HBX.out (by rw [if_neg (by decide)]; exact ext_refl _) (⟨A2, c9, upd_same _ _ _, K6_0.out⟩)
             · simp only [List.getElem?_toArray, List.getElem?_cons_succ, List.getElem?_cons_zero, Option.some.injEq] at ho
               subst ho
               have HKX := Lib.hid HK
               clear HK
               obtain ⟨A2, c9, e6, k6_0⟩ := (hdep 6 (by kernel_rfl))
               have rr6 := (rbk 173 (by decide)).trans e6
               have E6 := Lib.hid e6
               clear e6
               have K6_0 := Lib.hid k6_0
               clear k6_0
               clear rb0 rbk hdep
               go_simp
               exact HKX.out _ _ HBX.out (by rw [if_neg (by decide)]; exact ext_refl _) (⟨A2, c9, upd_same _ _ _⟩)
             · simp only [List.getElem?_toArray, List.getElem?_cons_succ, List.getElem?_cons_zero, Option.some.injEq] at ho
               subst ho
               have HKX := Lib.hid HK
               clear HK
               clear rb0 rbk hdep
               go_simp
               exact HKX.out _ _ (ext_alloc HBX.out _) (by rw [if_neg (by decide)]; exact ext_alloc (ext_refl _) _) ⟨wx.heap.size, upd_same _ _ _, hsz, _, _, _, _, Blk.born _ _ _ rfl⟩
             · simp only [List.getElem?_toArray, List.getElem?_cons_succ, List.getElem?_cons_zero, Option.some.injEq] at ho
               subst ho
               have HKX := Lib.hid HK
               clear HK
               obtain ⟨gB, e9, hs9, cB0, cB1, cB2, cB3, hB9⟩ := (hdep 9 (by kernel_rfl))
               obtain ⟨A2, c9, e7, k7_0⟩ := (hdep 7 (by kernel_rfl))
               have rr9 := (rbk 22 (by decide)).trans e9
               have rr7 := (rbk 180 (by decide)).trans e7
               have E9 := Lib.hid e9
               clear e9
               have E7 := Lib.hid e7
               clear e7
               have K7_0 := Lib.hid k7_0
               clear k7_0
               have hlt := hB9.lt
               obtain ⟨yB0, yB1, yB2, yB3⟩ := hB9.q4
               obtain ⟨zB0, zB1, zB2, zB3⟩ := hB9.z4
               have HBB := Lib.hid hB9
               clear hB9 rb0 rbk hdep
               go_simp
               have HKW := Lib.hid (keep4 (a0 := .int .i64 Dz) (a1 := .slice A2 Lz.length c9) (a2 := .int .i64 Pz) (a3 := .int .i64 Qz) HBB.out)
               exact HKX.out undef _ (bel4 HBX.out hs9) (by rw [if_pos rfl]; exact HKW.out) ⟨gB, A2, c9, E9.out, hs9, put4 HBB.out, HKW.out.own K7_0.out (by decide)⟩
             · simp only [List.getElem?_toArray, List.getElem?_cons_succ, List.getElem?_cons_zero, Option.some.injEq] at ho
               subst ho
               have HKX := Lib.hid HK
               clear HK
               obtain ⟨A2, c9, e8⟩ := (hdep 8 (by kernel_rfl))
               have rr8 := (rbk 181 (by decide)).trans e8
               have E8 := Lib.hid e8
               clear e8
               clear rb0 rbk hdep
               go_simp
               exact HKX.out _ _ HBX.out (by rw [if_neg (by decide)]; exact ext_refl _) (⟨A2, c9, upd_same _ _ _⟩)
           intro vs wx kk hb hall
           obtain ⟨P9, A2, c9, e1, hPl, hB, hr2⟩ := hall 10 (by decide)
           obtain ⟨_, _, e2'⟩ := hall 11 (by decide)
           clear hall
           simp only [sl]
           rw [e1, e2']
           clear e1 e2'
           simp only [Act.put, List.setIfInBounds_toArray, List.set_cons_succ, List.set_cons_zero]
           have BP := Lib.hid hB
           have HR4 := Lib.hid (own_base (base' := 0) hr2 (Nat.zero_le _))
           have BN4 := Lib.hid (BNr.out.ext hb)
           have HB4 := Lib.hid (ext_trans HBr.out hb)
           have HX4 := Lib.hid hb
           clear hb hr2 hB d0 d1 d2 d3 z0 z1 z2 z3 c0 c1 c2 hb'
           rcases okk with _ | _
           · have HQ2 := Lib.hid (HRN.out.1 rfl)
             go_wp2_with fail
             go_roundw
             case rel => exact ⟨j + 1, ct, Dp, Pp, Qp, lp, Ap, cp, by omega, by go_num, rfl, by omega, hlp9, HQ2, BN4, Lib.hid (own_ext HRr.out HX4.out), HB4⟩
             case measure => simp [intOf]; omega
           · have HQ2 := Lib.hid (HRN.out.2 rfl)
             obtain ⟨d0, d1, d2, d3⟩ := BN4.out.q4
             obtain ⟨z0, z1, z2, z3⟩ := BN4.out.z4
             have ln4 := BN4.out.lt
             obtain ⟨v0, v1, v2, v3⟩ := BP.out.q4
             have lp4 := BP.out.lt
             have hPN : P9 ≠ w11.heap.size := by omega
             go_wp2_with fail
             go_roundw
             case rel => exact ⟨j + 1, ct + 1, Dz, Pz, Qz, Lz, A2, c9, by omega, by go_num, by go_num, by omega, by omega, HQ2, Lib.hid (put4 BN4.out), Lib.hid (m4_own HR4.out (own_nbT HR4.out BN4.out (by decide))), Lib.hid (bel4 HB4.out (Nat.le_refl _))⟩
             case measure => simp [intOf]; omega
         · obtain rfl : j = xs.length := by omega
           have hfin := HQ.out.symm.trans HRUN.out
           injection hfin with hp hct
           injection hp with hp1 hp2
           injection hp2 with hp2 hp3
           injection hp3 with hp3 hp4
           subst hp1 hp2 hp3 hp4 hct
           have hMc := HMC.out
           subst hMc
           have x0 : V.cell? ⟨w9.heap.size, 0, none⟩ = some (.int .i64 Dp) := ext_cell HBr.out q11_4
           have x1 : V.cell? ⟨w9.heap.size, 1, none⟩ = some (.slice Ab lp.length cb) := ext_cell HBr.out q11_5
           have x2 : V.cell? ⟨w9.heap.size, 2, none⟩ = some (.int .i64 Pp) := ext_cell HBr.out q11_6
           have x3 : V.cell? ⟨w9.heap.size, 3, none⟩ = some (.int .i64 Qp) := ext_cell HBr.out q11_7
           have zg : w9.heap.size < V.heap.size := Nat.lt_of_lt_of_le z11_1 HBr.out.size
           have hcc2 : ((ct : Int) != (ct : Int)) = false := by simp
           have e2 : ¬ (xs.length : Int) < (xs.length : Int) := by omega
           have HVM := Lib.hid (vSchool_same Dp Pp Qp Ap Ab lp.length cp cb lp V (by omega) (Reads.of_own HRr.out) (Reads.of_own (own_ext o11_b.out HBr.out)))
           go_wp2_with fail
           refine HVM.out.mono ?_
           rintro e w' ⟨rfl, hb⟩
           go_wp2_with fail
           go_meet
           exact ext_trans HBr.out hb
       case rest => as_aux_lemma =>
        have hb := hcut
        clear hcut
        obtain ⟨w12, hw12⟩ : ∃ x : World, x = wc := ⟨_, rfl⟩
        subst hw12
        have s12 : w11.heap.size ≤ w12.heap.size := (by have := hb.size; (try simp at this); omega)
        have z12_0 : w8.heap.size < w12.heap.size := (by omega)
        have z12_1 : w9.heap.size < w12.heap.size := (by omega)
        have z12_2 : w10.heap.size < w12.heap.size := (by omega)
        have q12_0 : w12.cell? ⟨w8.heap.size, 0, none⟩ = some (.int .i64 D1) := ext_cell hb q11_0
        have q12_1 : w12.cell? ⟨w8.heap.size, 1, none⟩ = some (.slice Ay l1.length cy) := ext_cell hb q11_1
        have q12_2 : w12.cell? ⟨w8.heap.size, 2, none⟩ = some (.int .i64 P1) := ext_cell hb q11_2
        have q12_3 : w12.cell? ⟨w8.heap.size, 3, none⟩ = some (.int .i64 Q1) := ext_cell hb q11_3
        have q12_4 : w12.cell? ⟨w9.heap.size, 0, none⟩ = some (.int .i64 Db) := ext_cell hb q11_4
        have q12_5 : w12.cell? ⟨w9.heap.size, 1, none⟩ = some (.slice Ab Lb.length cb) := ext_cell hb q11_5
        have q12_6 : w12.cell? ⟨w9.heap.size, 2, none⟩ = some (.int .i64 Pb) := ext_cell hb q11_6
        have q12_7 : w12.cell? ⟨w9.heap.size, 3, none⟩ = some (.int .i64 Qb) := ext_cell hb q11_7
        have q12_8 : w12.cell? ⟨w10.heap.size, 0, none⟩ = some (.int .i64 Db) := ext_cell hb q11_8
        have q12_9 : w12.cell? ⟨w10.heap.size, 1, none⟩ = some (.slice Aa Lb.length ca) := ext_cell hb q11_9
        have q12_10 : w12.cell? ⟨w10.heap.size, 2, none⟩ = some (.int .i64 Pb) := ext_cell hb q11_10
        have q12_11 : w12.cell? ⟨w10.heap.size, 3, none⟩ = some (.int .i64 Qb) := ext_cell hb q11_11
        have b12 := Lib.hid (ext_trans b11.out hb)
        have t12 : w.heap.size ≤ w12.heap.size := b12.out.size
        have o12_y := Lib.hid (own_ext o11_y.out hb)
        have o12_x := Lib.hid (own_ext o11_x.out hb)
        have o12_b := Lib.hid (own_ext o11_b.out hb)
        have o12_a := Lib.hid (own_ext o11_a.out hb)
        clear q11_0 q11_1 q11_2 q11_3 q11_4 q11_5 q11_6 q11_7 q11_8 q11_9 q11_10 q11_11
        clear hb HB HA HLAW HXV k1 k2 hl19 hx41 hsl hcp hN
        go_wp2_with fail
        refine (drawNew_any A n c _ ((H.out.below b12.out).more b12.out.size) hn).mono ?_
        rintro e w13 ⟨z, rfl, hb⟩
        have s13 : w12.heap.size ≤ w13.heap.size := (by have := hb.size; (try simp at this); omega)
        have z13_0 : w8.heap.size < w13.heap.size := (by omega)
        have z13_1 : w9.heap.size < w13.heap.size := (by omega)
        have z13_2 : w10.heap.size < w13.heap.size := (by omega)
        have q13_0 : w13.cell? ⟨w8.heap.size, 0, none⟩ = some (.int .i64 D1) := ext_cell hb q12_0
        have q13_1 : w13.cell? ⟨w8.heap.size, 1, none⟩ = some (.slice Ay l1.length cy) := ext_cell hb q12_1
        have q13_2 : w13.cell? ⟨w8.heap.size, 2, none⟩ = some (.int .i64 P1) := ext_cell hb q12_2
        have q13_3 : w13.cell? ⟨w8.heap.size, 3, none⟩ = some (.int .i64 Q1) := ext_cell hb q12_3
        have q13_4 : w13.cell? ⟨w9.heap.size, 0, none⟩ = some (.int .i64 Db) := ext_cell hb q12_4
        have q13_5 : w13.cell? ⟨w9.heap.size, 1, none⟩ = some (.slice Ab Lb.length cb) := ext_cell hb q12_5
        have q13_6 : w13.cell? ⟨w9.heap.size, 2, none⟩ = some (.int .i64 Pb) := ext_cell hb q12_6
        have q13_7 : w13.cell? ⟨w9.heap.size, 3, none⟩ = some (.int .i64 Qb) := ext_cell hb q12_7
        have q13_8 : w13.cell? ⟨w10.heap.size, 0, none⟩ = some (.int .i64 Db) := ext_cell hb q12_8
        have q13_9 : w13.cell? ⟨w10.heap.size, 1, none⟩ = some (.slice Aa Lb.length ca) := ext_cell hb q12_9
        have q13_10 : w13.cell? ⟨w10.heap.size, 2, none⟩ = some (.int .i64 Pb) := ext_cell hb q12_10
        have q13_11 : w13.cell? ⟨w10.heap.size, 3, none⟩ = some (.int .i64 Qb) := ext_cell hb q12_11
        have b13 := Lib.hid (ext_trans b12.out hb)
        have t13 : w.heap.size ≤ w13.heap.size := b13.out.size
        have o13_y := Lib.hid (own_ext o12_y.out hb)
        have o13_x := Lib.hid (own_ext o12_x.out hb)
        have o13_b := Lib.hid (own_ext o12_b.out hb)
        have o13_a := Lib.hid (own_ext o12_a.out hb)
        clear q12_0 q12_1 q12_2 q12_3 q12_4 q12_5 q12_6 q12_7 q12_8 q12_9 q12_10 q12_11
        clear hb
        have HB := Lib.hid (fun (w : World) => implNwS_any z w)
        have HA := Lib.hid (fun (w : World) => specNwS_any z w)
        unfold RetNwS at HA HB
        obtain ⟨D7, hD7⟩ : ∃ o9, newD z = o9 := ⟨_, rfl⟩
        rw [hD7] at HA HB
        obtain ⟨ok, hok⟩ : ∃ o9, inB z 0 4000 = o9 := ⟨_, rfl⟩
        rw [hok] at HA HB
        have k1 : (ok == ok) = true := by cases ok <;> rfl
        clear hD7 hok
        go_wp2_with fail
        refine (HB.out _).mono ?_
        rintro e w14 ⟨Ad, cd, rfl, ho_d, hb⟩
        have s14 : w13.heap.size ≤ w14.heap.size := (by have := hb.size; (try simp at this); omega)
        have z14_0 : w8.heap.size < w14.heap.size := (by omega)
        have z14_1 : w9.heap.size < w14.heap.size := (by omega)
        have z14_2 : w10.heap.size < w14.heap.size := (by omega)
        have q14_0 : w14.cell? ⟨w8.heap.size, 0, none⟩ = some (.int .i64 D1) := ext_cell hb q13_0
        have q14_1 : w14.cell? ⟨w8.heap.size, 1, none⟩ = some (.slice Ay l1.length cy) := ext_cell hb q13_1
        have q14_2 : w14.cell? ⟨w8.heap.size, 2, none⟩ = some (.int .i64 P1) := ext_cell hb q13_2
        have q14_3 : w14.cell? ⟨w8.heap.size, 3, none⟩ = some (.int .i64 Q1) := ext_cell hb q13_3
        have q14_4 : w14.cell? ⟨w9.heap.size, 0, none⟩ = some (.int .i64 Db) := ext_cell hb q13_4
        have q14_5 : w14.cell? ⟨w9.heap.size, 1, none⟩ = some (.slice Ab Lb.length cb) := ext_cell hb q13_5
        have q14_6 : w14.cell? ⟨w9.heap.size, 2, none⟩ = some (.int .i64 Pb) := ext_cell hb q13_6
        have q14_7 : w14.cell? ⟨w9.heap.size, 3, none⟩ = some (.int .i64 Qb) := ext_cell hb q13_7
        have q14_8 : w14.cell? ⟨w10.heap.size, 0, none⟩ = some (.int .i64 Db) := ext_cell hb q13_8
        have q14_9 : w14.cell? ⟨w10.heap.size, 1, none⟩ = some (.slice Aa Lb.length ca) := ext_cell hb q13_9
        have q14_10 : w14.cell? ⟨w10.heap.size, 2, none⟩ = some (.int .i64 Pb) := ext_cell hb q13_10
        have q14_11 : w14.cell? ⟨w10.heap.size, 3, none⟩ = some (.int .i64 Qb) := ext_cell hb q13_11
        have b14 := Lib.hid (ext_trans b13.out hb)
        have t14 : w.heap.size ≤ w14.heap.size := b14.out.size
        have o14_y := Lib.hid (own_ext o13_y.out hb)
        have o14_x := Lib.hid (own_ext o13_x.out hb)
        have o14_b := Lib.hid (own_ext o13_b.out hb)
        have o14_a := Lib.hid (own_ext o13_a.out hb)
        clear q13_0 q13_1 q13_2 q13_3 q13_4 q13_5 q13_6 q13_7 q13_8 q13_9 q13_10 q13_11
        have oc_d := Lib.hid (own_base (base' := w13.heap.size + 0) ho_d (by simp))
        clear ho_d
        clear hb
        go_wp2_with fail
        refine (HA.out _).mono ?_
        rintro e w15 ⟨Ae, ce, rfl, ho_e, hb⟩
        have s15 : w14.heap.size + 1 ≤ w15.heap.size := (by have := hb.size; (try simp at this); omega)
        have z15_0 : w8.heap.size < w15.heap.size := (by omega)
        have z15_1 : w9.heap.size < w15.heap.size := (by omega)
        have z15_2 : w10.heap.size < w15.heap.size := (by omega)
        have z15_3 : w14.heap.size < w15.heap.size := (by omega)
        have q15_0 : w15.cell? ⟨w8.heap.size, 0, none⟩ = some (.int .i64 D1) := ext_cell hb (cell_old q14_0 _)
        have q15_1 : w15.cell? ⟨w8.heap.size, 1, none⟩ = some (.slice Ay l1.length cy) := ext_cell hb (cell_old q14_1 _)
        have q15_2 : w15.cell? ⟨w8.heap.size, 2, none⟩ = some (.int .i64 P1) := ext_cell hb (cell_old q14_2 _)
        have q15_3 : w15.cell? ⟨w8.heap.size, 3, none⟩ = some (.int .i64 Q1) := ext_cell hb (cell_old q14_3 _)
        have q15_4 : w15.cell? ⟨w9.heap.size, 0, none⟩ = some (.int .i64 Db) := ext_cell hb (cell_old q14_4 _)
        have q15_5 : w15.cell? ⟨w9.heap.size, 1, none⟩ = some (.slice Ab Lb.length cb) := ext_cell hb (cell_old q14_5 _)
        have q15_6 : w15.cell? ⟨w9.heap.size, 2, none⟩ = some (.int .i64 Pb) := ext_cell hb (cell_old q14_6 _)
        have q15_7 : w15.cell? ⟨w9.heap.size, 3, none⟩ = some (.int .i64 Qb) := ext_cell hb (cell_old q14_7 _)
        have q15_8 : w15.cell? ⟨w10.heap.size, 0, none⟩ = some (.int .i64 Db) := ext_cell hb (cell_old q14_8 _)
        have q15_9 : w15.cell? ⟨w10.heap.size, 1, none⟩ = some (.slice Aa Lb.length ca) := ext_cell hb (cell_old q14_9 _)
        have q15_10 : w15.cell? ⟨w10.heap.size, 2, none⟩ = some (.int .i64 Pb) := ext_cell hb (cell_old q14_10 _)
        have q15_11 : w15.cell? ⟨w10.heap.size, 3, none⟩ = some (.int .i64 Qb) := ext_cell hb (cell_old q14_11 _)
        have q15_12 : w15.cell? ⟨w14.heap.size, 0, none⟩ = some (.int .i64 D7) := ext_cell hb (by simp [go_sem])
        have q15_13 : w15.cell? ⟨w14.heap.size, 1, none⟩ = some (.slice Ad 0 cd) := ext_cell hb (by simp [go_sem])
        have q15_14 : w15.cell? ⟨w14.heap.size, 2, none⟩ = some (.int .i64 0) := ext_cell hb (by simp [go_sem])
        have q15_15 : w15.cell? ⟨w14.heap.size, 3, none⟩ = some (.int .i64 0) := ext_cell hb (by simp [go_sem])
        have b15 := Lib.hid (ext_trans (ext_alloc b14.out _) hb)
        have t15 : w.heap.size ≤ w15.heap.size := b15.out.size
        have o15_y := Lib.hid (own_ext (o14_y.out.alloc _) hb)
        have o15_x := Lib.hid (own_ext (o14_x.out.alloc _) hb)
        have o15_b := Lib.hid (own_ext (o14_b.out.alloc _) hb)
        have o15_a := Lib.hid (own_ext (o14_a.out.alloc _) hb)
        have o15_d := Lib.hid (own_ext (oc_d.out.alloc _) hb)
        clear q14_0 q14_1 q14_2 q14_3 q14_4 q14_5 q14_6 q14_7 q14_8 q14_9 q14_10 q14_11
        have oc_e := Lib.hid (own_base (base' := w14.heap.size + 1) ho_e (by simp))
        clear ho_e
        clear hb
        go_wp2_with fail
        refine (vSchool_same D7 0 0 Ad Ae 0 cd ce [] _ (by omega) (Reads.of_own (o15_d.out.alloc _)) (Reads.of_own (oc_e.out.alloc _))).mono ?_
        rintro e w16 ⟨rfl, hb⟩
        have s16 : w15.heap.size + 1 ≤ w16.heap.size := (by have := hb.size; (try simp at this); omega)
        have z16_0 : w8.heap.size < w16.heap.size := (by omega)
        have z16_1 : w9.heap.size < w16.heap.size := (by omega)
        have z16_2 : w10.heap.size < w16.heap.size := (by omega)
        have z16_3 : w14.heap.size < w16.heap.size := (by omega)
        have z16_4 : w15.heap.size < w16.heap.size := (by omega)
        have q16_0 : w16.cell? ⟨w8.heap.size, 0, none⟩ = some (.int .i64 D1) := ext_cell hb (cell_old q15_0 _)
        have q16_1 : w16.cell? ⟨w8.heap.size, 1, none⟩ = some (.slice Ay l1.length cy) := ext_cell hb (cell_old q15_1 _)
        have q16_2 : w16.cell? ⟨w8.heap.size, 2, none⟩ = some (.int .i64 P1) := ext_cell hb (cell_old q15_2 _)
        have q16_3 : w16.cell? ⟨w8.heap.size, 3, none⟩ = some (.int .i64 Q1) := ext_cell hb (cell_old q15_3 _)
        have q16_4 : w16.cell? ⟨w9.heap.size, 0, none⟩ = some (.int .i64 Db) := ext_cell hb (cell_old q15_4 _)
        have q16_5 : w16.cell? ⟨w9.heap.size, 1, none⟩ = some (.slice Ab Lb.length cb) := ext_cell hb (cell_old q15_5 _)
        have q16_6 : w16.cell? ⟨w9.heap.size, 2, none⟩ = some (.int .i64 Pb) := ext_cell hb (cell_old q15_6 _)
        have q16_7 : w16.cell? ⟨w9.heap.size, 3, none⟩ = some (.int .i64 Qb) := ext_cell hb (cell_old q15_7 _)
        have q16_8 : w16.cell? ⟨w10.heap.size, 0, none⟩ = some (.int .i64 Db) := ext_cell hb (cell_old q15_8 _)
        have q16_9 : w16.cell? ⟨w10.heap.size, 1, none⟩ = some (.slice Aa Lb.length ca) := ext_cell hb (cell_old q15_9 _)
        have q16_10 : w16.cell? ⟨w10.heap.size, 2, none⟩ = some (.int .i64 Pb) := ext_cell hb (cell_old q15_10 _)
        have q16_11 : w16.cell? ⟨w10.heap.size, 3, none⟩ = some (.int .i64 Qb) := ext_cell hb (cell_old q15_11 _)
        have q16_12 : w16.cell? ⟨w14.heap.size, 0, none⟩ = some (.int .i64 D7) := ext_cell hb (cell_old q15_12 _)
        have q16_13 : w16.cell? ⟨w14.heap.size, 1, none⟩ = some (.slice Ad 0 cd) := ext_cell hb (cell_old q15_13 _)
        have q16_14 : w16.cell? ⟨w14.heap.size, 2, none⟩ = some (.int .i64 0) := ext_cell hb (cell_old q15_14 _)
        have q16_15 : w16.cell? ⟨w14.heap.size, 3, none⟩ = some (.int .i64 0) := ext_cell hb (cell_old q15_15 _)
        have q16_16 : w16.cell? ⟨w15.heap.size, 0, none⟩ = some (.int .i64 D7) := ext_cell hb (by simp [go_sem])
        have q16_17 : w16.cell? ⟨w15.heap.size, 1, none⟩ = some (.slice Ae 0 ce) := ext_cell hb (by simp [go_sem])
        have q16_18 : w16.cell? ⟨w15.heap.size, 2, none⟩ = some (.int .i64 0) := ext_cell hb (by simp [go_sem])
        have q16_19 : w16.cell? ⟨w15.heap.size, 3, none⟩ = some (.int .i64 0) := ext_cell hb (by simp [go_sem])
        have b16 := Lib.hid (ext_trans (ext_alloc b15.out _) hb)
        have t16 : w.heap.size ≤ w16.heap.size := b16.out.size
        have o16_y := Lib.hid (own_ext (o15_y.out.alloc _) hb)
        have o16_x := Lib.hid (own_ext (o15_x.out.alloc _) hb)
        have o16_b := Lib.hid (own_ext (o15_b.out.alloc _) hb)
        have o16_a := Lib.hid (own_ext (o15_a.out.alloc _) hb)
        have o16_d := Lib.hid (own_ext (o15_d.out.alloc _) hb)
        have o16_e := Lib.hid (own_ext (oc_e.out.alloc _) hb)
        clear q15_0 q15_1 q15_2 q15_3 q15_4 q15_5 q15_6 q15_7 q15_8 q15_9 q15_10 q15_11 q15_12 q15_13 q15_14 q15_15
        clear hb
        go_wp2
        go_ret
        exact ⟨rfl, b16.out⟩
end Go.Proofs.Ytkcbgiegoadkbaa
