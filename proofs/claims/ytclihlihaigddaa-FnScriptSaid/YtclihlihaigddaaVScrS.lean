/- RunScript: the reference, walked. -/
import Derived.Test.YtclihlihaigddaaVM12
namespace Go.Proofs.Ytclihlihaigddaa
open Go.RowKit
set_option linter.unusedVariables false
set_option linter.unusedSimpArgs false
set_option maxRecDepth 100000 in
set_option maxHeartbeats 4000000 in
theorem specScr_bad1 (day pa le : Int) (d p : ByteArray) (z : Int) (A : Option Addr) (n c : Nat) (l : List R5) (text : ByteArray) (w : World) (hn : n ≤ 1048576) (hd : d.size ≤ 1048576) (hp : p.size ≤ 1048576) (htext : text.size ≤ 1048576) (hA : SlOk A n c) (h : Reads w w.heap.size 5 A n (rowsV l)) (hcon : conB day l pa le d p z = false) :
 Calls Try.prog 32 #[conV day A n c pa le d p z, .string text] w (RetSliceB w 9 1 ([] : List ByteArray).length (textsV ([] : List ByteArray)) false) := by
 have HSP := Lib.hid (show ∀ w : World, Calls Try.prog 98 #[.string text, .int .u8 10] w (RetSlice w 9 1 (splitL 10 (bl text)).length (strsV (splitL 10 (bl text)))) from fun w => l1Split_any text 10 w (by omega))
 have HI := Lib.hid (fun (w : World) h => l28Good_any day pa le d p z A n c l w hn (by omega) (by omega) h)
 rw [hcon] at HI
 have H := Lib.hid h
 have HLN := Lib.hid (rows_len h)
 have hWl : (splitL 10 (bl text)).length ≤ 1048577 := by
  have h1 := splitL_len 10 (bl text)
  have h2 := List.count_le_length (a := (10 : UInt8)) (l := bl text)
  rw [bl_size] at h2
  omega
 have hmem : ∀ x ∈ splitL 10 (bl text), (str x).size ≤ text.size := fun x hx => by
  have h1 := splitL_mem 10 (bl text) x hx
  rw [bl_size] at h1
  have h2 : (str x).size = x.length := by rw [← bl_size, bl_str]
  omega
 obtain ⟨W, hW⟩ : ∃ W, splitL 10 (bl text) = W := ⟨_, rfl⟩
 obtain ⟨m, hm⟩ : ∃ m, W.length = m := ⟨_, rfl⟩
 skip
 rw [hW, hm] at HSP
 rw [hW] at hmem
 rw [hW, hm] at hWl
 have HMEM := Lib.hid hmem
 have HM := Lib.hid hm
 clear h hcon hmem hW hm
 go_enter Try.func32, Try.ntmps32
 go_wp2_with fail
 refine (HSP.out _).mono ?_
 rintro e w1 ⟨Aw, cw, rfl, how, hb1⟩
 have X1 : Hid (Blk w1 w.heap.size 28 #[.int .i64 day, .slice A n c, .int .i64 pa, .int .i64 le, .string d, .string p, .int .i64 z]) := Lib.hid (((Blk.new w _ _).ext (ext_alloc (ext_refl _) _)).ext hb1)
 have OW1 := Lib.hid (own_base (base' := w.heap.size) how (by simp <;> omega))
 have HD1 : Hid (Value.ownBlock (.slice Aw m cw) ≠ some (w.heap.size + 1)) := Lib.hid (own_far_lt how (by simp))
 have b1 := Lib.hid (ext_trans (ext_alloc (ext_alloc (ext_refl w) _) _) hb1)
 have OS1 : Hid (w1.ownsRow w.heap.size 9 1 (.slice (some ⟨w.heap.size + 1, 0, none⟩) 0 0) 0 []) := Lib.hid (own_base (own_ext (by simpa using own_lit0 (w.alloc (.cells #[.int .i64 day, .slice A n c, .int .i64 pa, .int .i64 le, .string d, .string p, .int .i64 z] 28)) 9 1) hb1) (Nat.le_succ _))
 clear hb1 how
 obtain ⟨x10, x11, x12, x13, x14, x15, x16⟩ := X1.out.q7
 have sX1 := X1.out.lt
 go_wp2_with fail
 refine (HI.out _ ((H.out.ext b1.out (Nat.le_refl _)).more b1.out.size)).mono ?_
 rintro e w2 ⟨rfl, hb2⟩
 have X2 := Lib.hid (X1.out.ext hb2)
 have OW2 := Lib.hid (own_ext OW1.out hb2)
 have b2 := Lib.hid (ext_trans b1.out hb2)
 have OS2 := Lib.hid (own_ext OS1.out hb2)
 clear hb2 x10 x11 x12 x13 x14 x15 x16
 obtain ⟨x20, x21, x22, x23, x24, x25, x26⟩ := X2.out.q7
 have sX2 := X2.out.lt
 go_wp2
 go_ret2
 exact ⟨_, 0, rfl, OS2.out, b2.out⟩
set_option maxRecDepth 100000 in
set_option maxHeartbeats 4000000 in
theorem specScr_bad23 (day pa le : Int) (d p : ByteArray) (z : Int) (A : Option Addr) (n c : Nat) (l : List R5) (text : ByteArray) (w : World) (hn : n ≤ 1048576) (hd : d.size ≤ 1048576) (hp : p.size ≤ 1048576) (htext : text.size ≤ 1048576) (hA : SlOk A n c) (h : Reads w w.heap.size 5 A n (rowsV l)) (hcon : conB day l pa le d p z = true) (hb : 4000 < text.size ∨ (text.size ≤ 4000 ∧ 30 < (splitL 10 (bl text)).length)) :
 Calls Try.prog 32 #[conV day A n c pa le d p z, .string text] w (RetSliceB w 9 1 ([] : List ByteArray).length (textsV ([] : List ByteArray)) false) := by
 have HSP := Lib.hid (show ∀ w : World, Calls Try.prog 98 #[.string text, .int .u8 10] w (RetSlice w 9 1 (splitL 10 (bl text)).length (strsV (splitL 10 (bl text)))) from fun w => l1Split_any text 10 w (by omega))
 have HI := Lib.hid (fun (w : World) h => l28Good_any day pa le d p z A n c l w hn (by omega) (by omega) h)
 rw [hcon] at HI
 have H := Lib.hid h
 have HLN := Lib.hid (rows_len h)
 have hWl : (splitL 10 (bl text)).length ≤ 1048577 := by
  have h1 := splitL_len 10 (bl text)
  have h2 := List.count_le_length (a := (10 : UInt8)) (l := bl text)
  rw [bl_size] at h2
  omega
 have hmem : ∀ x ∈ splitL 10 (bl text), (str x).size ≤ text.size := fun x hx => by
  have h1 := splitL_mem 10 (bl text) x hx
  rw [bl_size] at h1
  have h2 : (str x).size = x.length := by rw [← bl_size, bl_str]
  omega
 obtain ⟨W, hW⟩ : ∃ W, splitL 10 (bl text) = W := ⟨_, rfl⟩
 obtain ⟨m, hm⟩ : ∃ m, W.length = m := ⟨_, rfl⟩
 rw [hW, hm] at hb
 have HBD := Lib.hid hb
 clear hb
 rw [hW, hm] at HSP
 rw [hW] at hmem
 rw [hW, hm] at hWl
 have HMEM := Lib.hid hmem
 have HM := Lib.hid hm
 clear h hcon hmem hW hm
 go_enter Try.func32, Try.ntmps32
 go_wp2_with fail
 refine (HSP.out _).mono ?_
 rintro e w1 ⟨Aw, cw, rfl, how, hb1⟩
 have X1 : Hid (Blk w1 w.heap.size 28 #[.int .i64 day, .slice A n c, .int .i64 pa, .int .i64 le, .string d, .string p, .int .i64 z]) := Lib.hid (((Blk.new w _ _).ext (ext_alloc (ext_refl _) _)).ext hb1)
 have OW1 := Lib.hid (own_base (base' := w.heap.size) how (by simp <;> omega))
 have HD1 : Hid (Value.ownBlock (.slice Aw m cw) ≠ some (w.heap.size + 1)) := Lib.hid (own_far_lt how (by simp))
 have b1 := Lib.hid (ext_trans (ext_alloc (ext_alloc (ext_refl w) _) _) hb1)
 have OS1 : Hid (w1.ownsRow w.heap.size 9 1 (.slice (some ⟨w.heap.size + 1, 0, none⟩) 0 0) 0 []) := Lib.hid (own_base (own_ext (by simpa using own_lit0 (w.alloc (.cells #[.int .i64 day, .slice A n c, .int .i64 pa, .int .i64 le, .string d, .string p, .int .i64 z] 28)) 9 1) hb1) (Nat.le_succ _))
 clear hb1 how
 obtain ⟨x10, x11, x12, x13, x14, x15, x16⟩ := X1.out.q7
 have sX1 := X1.out.lt
 go_wp2_with fail
 refine (HI.out _ ((H.out.ext b1.out (Nat.le_refl _)).more b1.out.size)).mono ?_
 rintro e w2 ⟨rfl, hb2⟩
 have X2 := Lib.hid (X1.out.ext hb2)
 have OW2 := Lib.hid (own_ext OW1.out hb2)
 have b2 := Lib.hid (ext_trans b1.out hb2)
 have OS2 := Lib.hid (own_ext OS1.out hb2)
 clear hb2 x10 x11 x12 x13 x14 x15 x16
 obtain ⟨x20, x21, x22, x23, x24, x25, x26⟩ := X2.out.q7
 have sX2 := X2.out.lt
 rcases HBD.out with hb | ⟨hb, hb2⟩
 · have h4 : (4000 : Int) < (text.size : Int) := by omega
   go_wp2
   go_ret2
   exact ⟨_, 0, rfl, OS2.out, b2.out⟩
 · have h3 : ¬ (4000 : Int) < (text.size : Int) := by omega
   have h4 : (30 : Int) < (m : Int) := by omega
   go_wp2
   go_ret2
   exact ⟨_, 0, rfl, OS2.out, b2.out⟩
set_option maxRecDepth 100000 in
set_option maxHeartbeats 4000000 in
theorem specScr_go (day pa le : Int) (d p : ByteArray) (z : Int) (A : Option Addr) (n c : Nat) (l : List R5) (text : ByteArray) (w : World) (hn : n ≤ 1048576) (hd : d.size ≤ 1048576) (hp : p.size ≤ 1048576) (htext : text.size ≤ 1048576) (hA : SlOk A n c) (h : Reads w w.heap.size 5 A n (rowsV l)) (hcon : conB day l pa le d p z = true) (h30 : (splitL 10 (bl text)).length ≤ 30) (h40 : text.size ≤ 4000) :
 Calls Try.prog 32 #[conV day A n c pa le d p z, .string text] w (RetSliceB w 9 1 (scrTo ((day, l, pa, le), d, p, z) (splitL 10 (bl text)) (splitL 10 (bl text)).length).2.length (textsV (scrTo ((day, l, pa, le), d, p, z) (splitL 10 (bl text)) (splitL 10 (bl text)).length).2) true) := by
 have HSP := Lib.hid (show ∀ w : World, Calls Try.prog 98 #[.string text, .int .u8 10] w (RetSlice w 9 1 (splitL 10 (bl text)).length (strsV (splitL 10 (bl text)))) from fun w => l1Split_any text 10 w (by omega))
 have HI := Lib.hid (fun (w : World) h => l28Good_any day pa le d p z A n c l w hn (by omega) (by omega) h)
 rw [hcon] at HI
 have H := Lib.hid h
 have HLN := Lib.hid (rows_len h)
 have hWl : (splitL 10 (bl text)).length ≤ 1048577 := by
  have h1 := splitL_len 10 (bl text)
  have h2 := List.count_le_length (a := (10 : UInt8)) (l := bl text)
  rw [bl_size] at h2
  omega
 have hmem : ∀ x ∈ splitL 10 (bl text), (str x).size ≤ text.size := fun x hx => by
  have h1 := splitL_mem 10 (bl text) x hx
  rw [bl_size] at h1
  have h2 : (str x).size = x.length := by rw [← bl_size, bl_str]
  omega
 obtain ⟨W, hW⟩ : ∃ W, splitL 10 (bl text) = W := ⟨_, rfl⟩
 obtain ⟨m, hm⟩ : ∃ m, W.length = m := ⟨_, rfl⟩
 rw [hW, hm] at h30 ⊢
 obtain ⟨C9, rs9, h9⟩ : ∃ C9 rs9, scrTo ((day, l, pa, le), d, p, z) W m = (C9, rs9) := ⟨_, _, rfl⟩
 rw [h9]
 have H9 := Lib.hid h9
 clear h9
 have h30' : ¬ (30 : Int) < (m : Int) := by omega
 have h40' : ¬ (4000 : Int) < (text.size : Int) := by omega
 obtain ⟨i0, hi, hz0, hz1, hz2⟩ := info_parts info_str
 rw [hW, hm] at HSP
 rw [hW] at hmem
 rw [hW, hm] at hWl
 have HMEM := Lib.hid hmem
 have HM := Lib.hid hm
 clear h hcon hmem hW hm
 go_enter Try.func32, Try.ntmps32
 go_wp2_with fail
 refine (HSP.out _).mono ?_
 rintro e w1 ⟨Aw, cw, rfl, how, hb1⟩
 have X1 : Hid (Blk w1 w.heap.size 28 #[.int .i64 day, .slice A n c, .int .i64 pa, .int .i64 le, .string d, .string p, .int .i64 z]) := Lib.hid (((Blk.new w _ _).ext (ext_alloc (ext_refl _) _)).ext hb1)
 have OW1 := Lib.hid (own_base (base' := w.heap.size) how (by simp <;> omega))
 have HD1 : Hid (Value.ownBlock (.slice Aw m cw) ≠ some (w.heap.size + 1)) := Lib.hid (own_far_lt how (by simp))
 have b1 := Lib.hid (ext_trans (ext_alloc (ext_alloc (ext_refl w) _) _) hb1)
 have OS1 : Hid (w1.ownsRow w.heap.size 9 1 (.slice (some ⟨w.heap.size + 1, 0, none⟩) 0 0) 0 []) := Lib.hid (own_base (own_ext (by simpa using own_lit0 (w.alloc (.cells #[.int .i64 day, .slice A n c, .int .i64 pa, .int .i64 le, .string d, .string p, .int .i64 z] 28)) 9 1) hb1) (Nat.le_succ _))
 clear hb1 how
 obtain ⟨x10, x11, x12, x13, x14, x15, x16⟩ := X1.out.q7
 have sX1 := X1.out.lt
 go_wp2_with fail
 refine (HI.out _ ((H.out.ext b1.out (Nat.le_refl _)).more b1.out.size)).mono ?_
 rintro e w2 ⟨rfl, hb2⟩
 have X2 := Lib.hid (X1.out.ext hb2)
 have OW2 := Lib.hid (own_ext OW1.out hb2)
 have b2 := Lib.hid (ext_trans b1.out hb2)
 have OS2 := Lib.hid (own_ext OS1.out hb2)
 clear hb2 x10 x11 x12 x13 x14 x15 x16
 obtain ⟨x20, x21, x22, x23, x24, x25, x26⟩ := X2.out.q7
 have sX2 := X2.out.lt
 have hl0 := HLN.out
 subst hl0
 have hdis : Value.ownBlock (.slice Aw m cw) = none ∨ Value.ownBlock (.slice Aw m cw) ≠ Value.ownBlock (.slice (some ⟨w.heap.size + 1, 0, none⟩) 0 0) := .inr HD1.out
 have HDIS := Lib.hid hdis
 clear hdis
 go_wp2_with fail
 go_loopw [6, 9] (fun v i wr => ∃ (k : Nat) (D P Q : Int) (L : List R5) (A' : Option Addr) (c' : Nat) (p' : ByteArray) (z' : Int) (rs : List ByteArray), k ≤ m ∧ i = .int .i64 k ∧ Hid (scrTo ((day, l, pa, le), d, p, z) W k = (((D, L, P, Q), d, p', z'), rs)) ∧ Hid (wr.ownsRow w.heap.size 9 1 v k (textsV rs)) ∧ Hid (Blk wr w.heap.size 28 #[.int .i64 D, .slice A' L.length c', .int .i64 P, .int .i64 Q, .string d, .string p', .int .i64 z']) ∧ Hid (SlOk A' L.length c') ∧ Hid (Reads w w.heap.size 5 A' L.length (rowsV L) ∨ wr.ownsRow w.heap.size 109 5 (.slice A' L.length c') L.length (rowsV L)) ∧ Hid (wr.ownsRow w.heap.size 9 1 (.slice Aw m cw) m (strsV W)) ∧ Hid (Value.ownBlock (.slice Aw m cw) = none ∨ Value.ownBlock (.slice Aw m cw) ≠ v.ownBlock) ∧ Hid (Below w.heap.size w wr)) (fun _ i _ => m - (intOf i).toNat)
 case atStart => exact ⟨0, day, pa, le, l, A, c, p, z, [], Nat.zero_le _, rfl, Lib.hid (scrTo_zero _ _), OS2, X2, Lib.hid hA, Lib.hid (.inl H.out), OW2, HDIS, b2⟩
 case round =>
  clear x20 x21 x22 x23 x24 x25 x26 sX2
  obtain ⟨k, D, P, Q, L, A', c', p', z', rs, hk, rfl, HR, HV, HX, HSL, HRD, HW, HDS, HB⟩ := hrel
  have hinv := scr_inv _ _ _ HR.out (by rw [HM.out]; exact hk)
  obtain ⟨hrl, _, hps, hLl⟩ := hinv
  have HRL := Lib.hid hrl
  clear hrl
  have hps : p'.size ≤ p.size + k * 405 := hps
  have hLl : L.length ≤ l.length ∨ L.length ≤ 8 := hLl
  have sX := HX.out.lt
  obtain ⟨x0, x1, x2, x3, x4, x5, x6⟩ := HX.out.q7
  obtain ⟨fx0, fx1, fx2, fx3, fx4, fx5, fx6⟩ := HX.out.z7
  by_cases hlt : k < m
  · obtain ⟨x, hx⟩ := list_split (l := W) (k := k) (by rw [HM.out]; exact hlt)
    obtain ⟨gw, capw, hvw, hgwb, hgwlt⟩ := HW.out.form (by omega)
    have hxs := HMEM.out x (List.mem_of_getElem? hx)
    have c0 : wr.cell? ⟨gw, k, none⟩ = some (.string (str x)) := by
     injection hvw with hv1 _ _
     have := HW.out.cells (g := gw) (by rw [hv1]; rfl) k (.string (str x)) (by simp [strsV, hx])
     rw [add_flat, Nat.zero_add] at this
     exact this
    injection hvw with hv1 _ hv2
    subst hv1
    clear hv2
    have HEX := Lib.hid (fun (w : World) h => specEx_any D P Q d p' z' A' L.length c' L (str x) w (by omega) (by omega) (by omega) (by omega) HSL.out h)
    have hnext := scrTo_succ HR.out hx
    rcases hC : exC ((D, L, P, Q), d, p', z') (str x) with ⟨⟨D5, L5, P5, Q5⟩, d5, P2, Z2⟩
    have hd5 : d5 = d := by have := congrArg (fun C : Con => C.2.1) hC; exact this.symm
    subst hd5
    obtain ⟨tx, htx⟩ : ∃ tx, exR ((D, L, P, Q), d5, p', z') (str x) = tx := ⟨_, rfl⟩
    rw [hC, htx] at hnext
    have hq1 : exQ (D, L, P, Q) d5 p' z' (str x) = (D5, L5, P5, Q5) := congrArg (fun C : Con => C.1) hC
    have hq2 : exP (D, L, P, Q) d5 p' z' (str x) = P2 := congrArg (fun C : Con => C.2.2.1) hC
    have hq3 : exZ (D, L, P, Q) d5 p' z' (str x) = Z2 := congrArg (fun C : Con => C.2.2.2) hC
    have hq4 : exT (D, L, P, Q) d5 p' z' (str x) = tx := htx
    rw [hq1, hq2, hq3, hq4] at HEX
    have HN := Lib.hid hnext
    have hrd : Reads wr wr.heap.size 5 A' L.length (rowsV L) := by
     rcases HRD.out with h1 | h1
     · exact (h1.ext HB.out (Nat.le_refl _)).more HB.out.size
     · exact Reads.of_own h1
    have HRE := Lib.hid hrd
    have hlt' : (k : Int) < (m : Int) := by omega
    have hk0 : (0 : Int) ≤ (k : Int) := by omega
    have m1 : k + 1 ≤ maxLen := by unfold maxLen; omega
    have m2 : (k + 1) * 16 ≤ 140737488355328 := by omega
    have hXS := Lib.hid (own_nb HV.out HX.out (by decide))
    have hXW := Lib.hid (own_nb HW.out HX.out (by decide))
    clear hx hC htx hnext hq1 hq2 hq3 hq4 hrd
    go_wp2_with fail
    go_cut [8] (fun s8 wx => s8 = .string tx ∧ ∃ (A5 : Option Addr) (c5 : Nat), Blk wx w.heap.size 28 #[.int .i64 D5, .slice A5 L5.length c5, .int .i64 P5, .int .i64 Q5, .string d5, .string P2, .int .i64 Z2] ∧ wx.ownsRow w.heap.size 109 5 (.slice A5 L5.length c5) L5.length (rowsV L5) ∧ wx.ownsRow w.heap.size 9 1 u6 k (textsV rs) ∧ wx.ownsRow w.heap.size 9 1 (.slice (some ⟨gw, 0, none⟩) m cw) m (strsV W) ∧ Below w.heap.size w wx)
    case first =>
     go_region_with (first | (go_at_call 30; refine (HEX.out wr.drew (Reads.ext (w := wr) (w' := wr.drew) HRE.out (ext_drew (ext_refl _)) (Nat.le_refl _))).mono ?_; rintro e w5 ⟨A5, c5, rfl, ho5, hb5⟩; have ho5 := Lib.hid ho5; have X5 := HX.out.ext (ext_trans (ext_drew (ext_refl _)) hb5); obtain ⟨y50, y51, y52, y53, y54, y55, y56⟩ := X5.q7; obtain ⟨fy50, fy51, fy52, fy53, fy54, fy55, fy56⟩ := X5.z7; clear X5; have zs5 := hb5.size; have zX5 : w.heap.size < w5.heap.size := (by (try simp at zs5); omega)))
     all_goals (go_wp2_with fail; go_meet)
     all_goals
      have e5 : Below wr.heap.size wr w5 := ext_trans (ext_drew (ext_refl _)) hb5
      have HX5 := HX.out.ext e5
      have hne5 := own_nb ho5.out HX5 (by decide)
      refine ⟨rfl, A5, c5, ?_, ?_, ?_, ?_, ?_⟩
      · have := ((((((HX5.set_ 0 (.int .i64 D5)).set_ 1 (.slice A5 L5.length c5)).set_ 2 (.int .i64 P5)).set_ 3 (.int .i64 Q5)).set_ 4 (.string d5)).set_ 5 (.string P2)).set_ 6 (.int .i64 Z2)
        simpa using this
      · iterate 7 with_reducible refine own_set_nb ?_ hne5 _
        exact own_base ho5.out HB.out.size
      · iterate 7 with_reducible refine own_set_nb ?_ hXS.out _
        exact own_ext HV.out e5
      · iterate 7 with_reducible refine own_set_nb ?_ hXW.out _
        exact own_ext HW.out e5
      · iterate 7 with_reducible refine ext_set ?_ (Nat.le_refl _) _
        exact ext_trans HB.out e5
    case rest =>
     obtain ⟨rfl, A5, c5, gx, go, gv, gw', gb⟩ := hcut
     obtain ⟨w7, hw7⟩ : ∃ w7, w7 = wc := ⟨_, rfl⟩
     subst hw7
     have GX7 := Lib.hid gx
     have GO7 := Lib.hid go
     have GV7 := Lib.hid gv
     have GW7 := Lib.hid gw'
     have GB7 := Lib.hid gb
     clear gx go gv gw' gb x0 fx0 x1 fx1 x2 fx2 x3 fx3 x4 fx4 x5 fx5 x6 fx6
     go_wp2_with (at_builtin; refine wpList_append_own_at _ rfl (.tmp 42) (.tmp 44) 54 rfl w.heap.size 9 i0 _ 1 16 Try.underlying54 hi hz0 hz1 hz2 rfl (by decide) _ k (textsV rs) rfl (GV7.out.alloc _) _ 1 1 [.string tx] rfl rfl (cell_one_at _ _ _ (by simp)) (by simp [Value.oneCell']) m1 m2 (by have := GB7.out.size; simp; omega) ?_; intro v' w8 hown8 hgrow _ hat; have HAT := Lib.hid hat; clear hat)
     go_roundw
     case rel =>
      have hnS := own_ne_ty GO7.out GV7.out (by decide)
      refine ⟨k + 1, D5, P5, Q5, L5, A5, c5, P2, Z2, rs ++ [tx], by omega, by go_num, HN, ?_, ?_, Lib.hid (slOk_own GO7.out), ?_, ?_, ?_, ?_⟩
      · refine Lib.hid ?_
        rw [show textsV (rs ++ [tx]) = textsV rs ++ [.string tx] from by simp [textsV]]
        exact hown8
      · exact Lib.hid ((GX7.out.ext (ext_alloc (ext_refl _) _)).grown hgrow (own_nb GV7.out GX7.out (by decide)))
      · exact Lib.hid (.inr ((GO7.out.alloc _).kept hgrow hnS))
      · exact Lib.hid ((GW7.out.alloc _).kept hgrow HDS.out)
      · exact Lib.hid (own_dis2 (GW7.out.alloc _) HDS.out HAT.out)
      · exact Lib.hid (below_grown GV7.out (ext_alloc GB7.out _) hgrow)
     case measure => simp [intOf]; omega
  · obtain rfl : k = m := by omega
    have hfin := HR.out
    rw [H9.out] at hfin
    injection hfin with h1 h2
    subst h2
    have hown1 := HV.out
    obtain ⟨A', c', rfl⟩ := own_shape hown1
    clear hown1
    go_wp2
    go_ret2
    rw [HRL.out]
    exact ⟨A', c', rfl, HV.out, HB.out⟩
end Go.Proofs.Ytclihlihaigddaa
