/- The program's reply to 'wait' and 'leave'. -/
import Derived.Test.YtkcbgiegoadkbaaGreatVM8
namespace Go.Proofs.YtkcbgiegoadkbaaGreat
open Go.RowKit
set_option linter.unusedVariables false
set_option linter.unusedSimpArgs false
set_option maxRecDepth 100000 in
set_option maxHeartbeats 4000000 in
theorem reply_wait (day pa le : Int) (A : Option Addr) (n c : Nat) (l : List R5) (line : ByteArray) (w : World) (hn : n ≤ 8) (hA : SlOk A n c) (h : Reads w w.heap.size 5 A n (rowsV l)) (hs : schB day l pa le = true) (hline : line.size ≤ 16000) (hday : 0 ≤ day ∧ day ≤ 4000)
 (W : List (List UInt8)) (x0 : List UInt8) (word : ByteArray) (vs : List Int) (hW : splitL 32 (bl line) = W) (hx0 : W[0]? = some x0) (hwd : str x0 = word) (hvs : numsO (W.drop 1) = some vs) (i1 : Int) (hvs2 : vs = [i1]) (hi1 : i1 ≤ 9223372036854775807) (hw : word = ⟨#[119, 97, 105, 116]⟩) :
 Calls Tryz.prog 34 #[schV day A n c pa le, .string line] w (RetRep A n c l (rep1 (day, l, pa, le) word i1) w) := by
 have hrep : rep1 (day, l, pa, le) word i1 = (stepS day pa le l 1 0 i1).map fun s => (s, decI s.1) := by
  subst hw
  unfold rep1 stpQ
  rw [if_pos rfl]
 rw [hrep]
 subst hw
 obtain ⟨O, hO⟩ : ∃ O, stepS day pa le l 1 0 i1 = O := ⟨_, rfl⟩
 have HST := Lib.hid (fun (w : World) h => (stepped_any day pa le 1 0 i1 A n c l w hA h hs (by omega)).mono (retUni _ w))
 have hOK : ∀ s, O = some s → schB s.1 s.2.1 s.2.2.1 s.2.2.2 = true := fun s h => stpQ_ok (show stpQ (day, l, pa, le) 1 0 i1 = some s from by rw [← h]; exact hO)
 rw [hO] at HST ⊢
 obtain ⟨D, hD⟩ : ∃ D, oD O = D := ⟨_, rfl⟩
 obtain ⟨P, hP⟩ : ∃ P, oP O = P := ⟨_, rfl⟩
 obtain ⟨Q, hQ⟩ : ∃ Q, oQ O = Q := ⟨_, rfl⟩
 obtain ⟨ok, hok⟩ : ∃ ok, O.isSome = ok := ⟨_, rfl⟩
 obtain ⟨L, hL⟩ : ∃ L, oL O = L := ⟨_, rfl⟩
 obtain ⟨N, hN⟩ : ∃ N, L.length = N := ⟨_, rfl⟩
 rw [hD, hP, hQ, hok, hL, hN] at HST
 have hb := oBounds O hOK
 rw [hD, hP, hQ, hL, hN] at hb
 obtain ⟨⟨hD0, hD1⟩, ⟨hP0, hP1⟩, ⟨hQ0, hQ1⟩, hN8⟩ := hb
 obtain ⟨o, ho⟩ : ∃ o, (O.map fun s => (s, decI s.1)) = o := ⟨_, rfl⟩
 have hfin : o.isSome = ok ∧ ∀ y, o = some y → y = ((D, L, P, Q), decI D) ∧ N = L.length := by
  rw [← ho]
  rcases O with _ | ⟨d, l', p, q⟩
  · exact ⟨hok, fun y hy => nomatch hy⟩
  · simp only [oD, oP, oQ, oL] at hD hP hQ hL
    subst hD hP hQ hL
    exact ⟨hok, fun y hy => ⟨by injection hy with hy; exact hy.symm, hN.symm⟩⟩
 rw [ho]
 have HFIN := Lib.hid hfin
 clear hrep hO hOK hD hP hQ hok hL hN ho hfin
 have HSP := Lib.hid (show ∀ w : World, Calls Tryz.prog 57 #[.string line, .int .u8 32] w (RetSlice w 9 1 W.length (strsV W)) from fun w => by rw [← hW]; exact split_any line 32 w (by omega))
 obtain ⟨hvl, hvp⟩ := numsO_some _ _ hvs
 have hWl : 1 ≤ W.length := by have := (List.getElem?_eq_some_iff.1 hx0).1; omega
 have hW8 : W.length ≤ 16001 := by
  have h1 := splitL_len 32 (bl line)
  have h2 := List.count_le_length (a := (32 : UInt8)) (l := bl line)
  rw [bl_size] at h2
  rw [hW] at h1
  omega
 have hmem : ∀ x ∈ W, (str x).size ≤ 16000 := fun x hx => by
  have h1 := splitL_mem 32 (bl line) x (by rw [hW]; exact hx)
  rw [bl_size] at h1
  have h2 : (str x).size = x.length := by rw [← bl_size, bl_str]
  omega
 have hdl : (W.drop 1).length = W.length - 1 := by simp
 obtain ⟨m, hm⟩ : ∃ m, W.length = m + 1 := ⟨W.length - 1, by omega⟩
 have hvm : vs.length = m := by omega
 have HV := Lib.hid hvp
 have HM := Lib.hid hm
 have HVM := Lib.hid hvm
 have HMEM := Lib.hid hmem
 have HX0 := Lib.hid hx0
 have HWD := Lib.hid hwd
 have H := Lib.hid h
 have HS := Lib.hid hs
 have hm16 : m ≤ 16000 := by omega
 rw [hm] at HSP
 obtain ⟨i0, hi, hz0, hz1, hz2⟩ := info_parts info_int
 have HVS := Lib.hid hvs2
 clear hvs2 h hs hW hx0 hwd hvs hvl hvp hWl hW8 hmem hdl hm hvm
 go_enter Tryz.func34, Tryz.ntmps34
 go_wp2_with fail
 refine (HSP.out _).mono ?_
 rintro e w1 ⟨Aw, cw, rfl, how, hb1⟩
 obtain ⟨g, cap, hv, hgb, hglt⟩ := how.form (by omega)
 injection hv with hv _ hcap
 subst hv hcap
 have BX := Lib.hid (((Blk.new w #[.int .i64 day, .slice A n c, .int .i64 pa, .int .i64 le] 32).ext (ext_alloc (ext_refl _) (.cells #[.int .i64 0, .slice none 0 0, .int .i64 0, .int .i64 0] 32))).ext hb1)
 have BR : Hid (Blk w1 (w.heap.size + 1) 32 #[.int .i64 0, .slice none 0 0, .int .i64 0, .int .i64 0]) := Lib.hid (by
  have := (Blk.new (w.alloc (.cells #[.int .i64 day, .slice A n c, .int .i64 pa, .int .i64 le] 32)) #[.int .i64 0, .slice none 0 0, .int .i64 0, .int .i64 0] 32).ext hb1
  simpa using this)
 have hw1 := Lib.hid (ext_trans (ext_alloc (ext_alloc (ext_refl w) _) _) hb1)
 have s1 : w.heap.size + 1 < w1.heap.size := by have := hb1.size; simp at this; omega
 have hgs : w.heap.size + 1 < g := by simp at hgb; omega
 have hcw : m + 1 ≤ cw := own_cap3 how
 have HOW := Lib.hid (own_base (base' := 0) how (Nat.zero_le _))
 have HC0 : Hid (∀ (k : Nat) (x : List UInt8), W[k]? = some x → w1.cell? ⟨g, k, none⟩ = some (.string (str x))) := Lib.hid (fun k x hx => by
  rw [how.cellAt k (by have := (List.getElem?_eq_some_iff.1 hx).1; have := HM.out; omega)]
  simp [strsV, hx])
 clear hb1 how hgb
 go_upto_region 3 with fail
 go_cut [30, 31, 32] (fun s30 s31 s32 wx => ∃ (A2 : Option Addr) (c2 : Nat), s30 = .slice A2 m c2 ∧ s31 = .int .i64 m ∧ s32 = .int .i64 0 ∧ wx = w1 ∧ (0 < m → A2 = some ⟨g, 1, none⟩))
 case first =>
  by_cases hc1 : cw = 1
  · subst hc1
    obtain rfl : m = 0 := by omega
    go_wp2_with fail
    go_meet
    exact ⟨_, _, rfl, rfl, rfl, rfl, fun hm0 => absurd hm0 (by omega)⟩
  · go_wp2_with fail
    go_meet
    exact ⟨_, _, rfl, rfl, rfl, rfl, fun _ => rfl⟩
 case rest =>
 obtain ⟨A2, c2, rfl, rfl, rfl, rfl, hA2⟩ := hcut
 have HA2 := Lib.hid hA2
 clear hA2 hcw
 go_wp2_with fail
 go_loopw [8, 32] (fun v i wr => ∃ k : Nat, k ≤ m ∧ i = .int .i64 k ∧ Hid (wr.ownsRow wc.heap.size 3 1 v k (intsV (vs.take k))) ∧ Hid (Below wc.heap.size wc wr)) (fun _ i _ => m - (intOf i).toNat)
 case atStart => exact ⟨0, Nat.zero_le _, rfl, Lib.hid (World.ownsRow_nil _ _ _ _), Lib.hid (ext_refl _)⟩
 case round =>
  obtain ⟨k, hk, rfl, hown, HB⟩ := hrel
  by_cases hlt : k < m
  · obtain ⟨x, hx⟩ := list_split (l := W) (k := 1 + k) (by rw [HM.out]; omega)
    obtain ⟨v, hv, hp⟩ := HV.out k x (by rw [List.getElem?_drop]; exact hx)
    have hxs := HMEM.out x (List.mem_of_getElem? hx)
    have HPI := Lib.hid (fun (w : World) => implParseInt_any (str x) w (by omega))
    rw [hp] at HPI
    have c0 := ext_cell HB.out (HC0.out (1 + k) x hx)
    have hgw : g < wr.heap.size := Nat.lt_of_lt_of_le hglt HB.out.size
    have hnew : Hid (intsV (vs.take (k + 1)) = intsV (vs.take k) ++ [.int .i64 v]) := Lib.hid (by rw [List.take_add_one, hv]; simp [intsV])
    have hA3 := HA2.out (by omega)
    subst hA3
    have m1 : k + 1 ≤ maxLen := by unfold maxLen; omega
    have m2 : (k + 1) * 8 ≤ 140737488355328 := by omega
    have hlt' : (k : Int) < (m : Int) := by omega
    clear hx hv hp
    go_wp2_with fail
    refine (HPI.out _).mono ?_
    rintro e w5 ⟨rfl, hb⟩
    have hown5 := Lib.hid (own_ext hown.out hb)
    have HB5 := Lib.hid (ext_trans HB.out hb)
    have hSome : (some v).isSome = true := rfl
    clear hb c0
    go_wp2_with (at_builtin; refine wpList_append_own _ rfl (.tmp 44) (.tmp 46) 53 rfl wc.heap.size 3 i0 _ 1 8 Tryz.underlying53 hi hz0 hz1 hz2 rfl (by decide) _ _ _ rfl (hown5.out.alloc _) _ 1 1 [.int .i64 v] rfl rfl (cell_one_at _ _ _ (by simp)) (by simp [Value.oneCell']) m1 m2 (by have := HB5.out.size; simp; omega) ?_; intro v' w2 hown2 hgrow _)
    go_roundw
    case rel =>
     refine ⟨k + 1, by omega, by go_num, ?_, Lib.hid (below_grown hown5.out (ext_alloc HB5.out _) hgrow)⟩
     refine Lib.hid ?_
     rw [hnew.out]
     exact hown2
    case measure => simp [intOf]; omega
  · obtain rfl : k = m := by omega
    have hown1 := hown.out
    rw [List.take_of_length_le (by rw [HVM.out]; exact Nat.le_refl _)] at hown1
    obtain ⟨An, cn, rfl⟩ := own_shape hown1
    have hvs2 := HVS.out
    subst hvs2
    clear HVS
    obtain rfl : k = 1 := HVM.out.symm
    have BXr := Lib.hid (BX.out.ext HB.out)
    have BRr := Lib.hid (BR.out.ext HB.out)
    have hwr := Lib.hid (ext_trans hw1.out HB.out)
    have hgw : g < wr.heap.size := Nat.lt_of_lt_of_le hglt HB.out.size
    have sX := BXr.out.lt
    have sR := BRr.out.lt
    have cw0 := ext_cell HB.out (HC0.out 0 x0 HX0.out)
    rw [HWD.out] at cw0
    obtain ⟨x0r, x1r, x2r, x3r⟩ := BXr.out.q4
    obtain ⟨y0r, y1r, y2r, y3r⟩ := BRr.out.q4
    obtain ⟨fy0r, fy1r, fy2r, fy3r⟩ := BRr.out.z4
    obtain ⟨gn, capn, hvn, hgnb, hgnlt⟩ := hown1.form (by omega)
    injection hvn with hvn _ hcapn
    subst hvn hcapn
    have n0 : wr.cell? ⟨gn, 0, none⟩ = some (.int .i64 i1) := by rw [hown1.cellAt 0 (by omega)]; rfl
    have HON := Lib.hid hown1
    clear hown hown1 HSP HV HMEM HC0 HOW BX BR hw1
    go_upto_region 21 with fail
    go_cut [19, 20] (fun sP sOk wx => ∃ (gg : Nat) (A4 : Option Addr) (c4 : Nat), sP = .pointer (some ⟨gg, 0, none⟩) ∧ sOk = .bool ok ∧ wr.heap.size ≤ gg ∧ Blk wx gg 32 #[.int .i64 D, .slice A4 N c4, .int .i64 P, .int .i64 Q] ∧ wx.ownsRow w.heap.size 111 5 (.slice A4 N c4) N (rowsV L) ∧ Below wr.heap.size wr wx)
    case first =>
     go_region_held3 (fun w' => w'.cell? ⟨w.heap.size, 0, none⟩ = some (.int .i64 day) ∧ w'.cell? ⟨w.heap.size, 1, none⟩ = some (.slice A n c) ∧ w'.cell? ⟨w.heap.size, 2, none⟩ = some (.int .i64 pa) ∧ w'.cell? ⟨w.heap.size, 3, none⟩ = some (.int .i64 le) ∧ w'.cell? ⟨gn, 0, none⟩ = some (.int .i64 i1)) (first | (go_split_ands; ((repeat' refine And.intro ?_ ?_) <;> with_reducible (repeat (first | assumption | refine cell_drew ?_ | refine cell_old ?_ _ | refine cell_set_far (by first | (show wr.heap.size ≠ w.heap.size; omega) | (show wr.heap.size ≠ gn; omega)) ?_))))) (first | (go_at_call 60; refine (HST.out _ ((H.out.ext (by repeat (first | (with_reducible exact hwr.out) | (with_reducible refine ext_drew ?_) | (with_reducible refine ext_alloc ?_ _))) (Nat.le_refl _)).more (by (try simp); omega))).mono ?_; rintro e w4 ⟨A4, c4, rfl, ho4, hb4⟩; have ho4 := Lib.hid ho4; obtain ⟨hc4, hf4⟩ := bcell hb4; have z4 := hb4.size; (try simp at z4); have k0 : w4.cell? ⟨w.heap.size, 0, none⟩ = some (.int .i64 day) := ext_cell hb4 (by with_reducible (repeat (first | exact x0r | refine cell_drew ?_ | refine cell_old ?_ _))); have k1 : w4.cell? ⟨w.heap.size, 1, none⟩ = some (.slice A n c) := ext_cell hb4 (by with_reducible (repeat (first | exact x1r | refine cell_drew ?_ | refine cell_old ?_ _))); have k2 : w4.cell? ⟨w.heap.size, 2, none⟩ = some (.int .i64 pa) := ext_cell hb4 (by with_reducible (repeat (first | exact x2r | refine cell_drew ?_ | refine cell_old ?_ _))); have k3 : w4.cell? ⟨w.heap.size, 3, none⟩ = some (.int .i64 le) := ext_cell hb4 (by with_reducible (repeat (first | exact x3r | refine cell_drew ?_ | refine cell_old ?_ _))); have k4 : w4.cell? ⟨gn, 0, none⟩ = some (.int .i64 i1) := ext_cell hb4 (by with_reducible (repeat (first | exact n0 | refine cell_drew ?_ | refine cell_old ?_ _)))))
     all_goals (go_wp2_with fail; go_meet)
     all_goals refine ⟨_, A4, c4, rfl, rfl, ?_, ?_, ?_, ?_⟩
     all_goals first
      | with_reducible exact Nat.le_refl _
      | (with_reducible refine le_id ?_; (try simp at z4); (try simp); omega)
      | with_reducible exact Blk.new _ _ _
      | (with_reducible refine blk_id ?_
         have := (((((Blk.new wr #[.int .i64 0, .slice none 0 0, .int .i64 0, .int .i64 0] 32).ext (ext_drew (ext_refl _))).ext hb4).set_ 0 (.int .i64 D)).set_ 1 (.slice A4 N c4)).set_ 2 (.int .i64 P) |>.set_ 3 (.int .i64 Q)
         simpa using this)
      | (with_reducible refine blk_id ?_
         have := (((((Blk.new wr.drew #[.int .i64 0, .slice none 0 0, .int .i64 0, .int .i64 0] 32)).ext hb4).set_ 0 (.int .i64 D)).set_ 1 (.slice A4 N c4)).set_ 2 (.int .i64 P) |>.set_ 3 (.int .i64 Q)
         simpa using this)
      | (with_reducible refine own_base (ho4.out.alloc _) ?_; (try simp); omega)
      | (have hne4 : Value.ownBlock (.slice A4 N c4) ≠ some wr.heap.size := own_far_lt ho4.out (by simp)
         iterate 4 with_reducible refine own_set_nb ?_ hne4 _
         exact own_base ho4.out (by (try simp); omega))
      | (with_reducible refine ext_alloc ?_ _; exact ext_trans (ext_drew (ext_refl _)) hb4)
      | (iterate 4 with_reducible refine ext_set ?_ (Nat.le_refl _) _
         exact ext_trans (ext_drew (ext_alloc (ext_refl _) _)) hb4)
      | (iterate 4 with_reducible refine ext_set ?_ (Nat.le_refl _) _
         exact ext_trans (ext_alloc (ext_drew (ext_refl _)) _) hb4)
    case rest =>
    obtain ⟨gg, A4, c4, rfl, rfl, hgg, hG5, ho5, hb5⟩ := hcut
    obtain ⟨w5, hw5⟩ : ∃ w5, w5 = wc := ⟨_, rfl⟩
    subst hw5
    have G5 := Lib.hid hG5
    have O5 := Lib.hid ho5
    clear hG5 ho5
    have BX5 := Lib.hid (BXr.out.ext hb5)
    have BR5 := Lib.hid (BRr.out.ext hb5)
    have hw5 := Lib.hid (ext_trans hwr.out hb5)
    have n50 := ext_cell hb5 n0
    have s5 := hb5.size
    have hg5 : g < w5.heap.size := by omega
    have hgn5 : gn < w5.heap.size := by omega
    have sX5 := BX5.out.lt
    have sR5 := BR5.out.lt
    obtain ⟨x50, x51, x52, x53⟩ := BX5.out.q4
    obtain ⟨y50, y51, y52, y53⟩ := BR5.out.q4
    obtain ⟨fy50, fy51, fy52, fy53⟩ := BR5.out.z4
    clear x0r x1r x2r x3r y0r y1r y2r y3r fy0r fy1r fy2r fy3r cw0 n0 hb5
    obtain ⟨q0, q1, q2, q3⟩ := G5.out.q4
    have sG5 := G5.out.lt
    have hneR := Lib.hid (own_nb O5.out BR5.out (by decide))
    have hneG : gg ≠ w.heap.size + 1 := by omega
    go_wp2_with fail
    go_region_held3 (fun w' => w'.cell? ⟨gg, 0, none⟩ = some (.int .i64 D) ∧ w'.cell? ⟨gg, 1, none⟩ = some (.slice A4 N c4) ∧ w'.cell? ⟨gg, 2, none⟩ = some (.int .i64 P) ∧ w'.cell? ⟨gg, 3, none⟩ = some (.int .i64 Q)) (first | (go_split_ands; ((repeat' refine And.intro ?_ ?_) <;> with_reducible (repeat (first | assumption | refine cell_drew ?_ | refine cell_old ?_ _ | refine ext_cell hb8 ?_ | refine cell_set_far (by first | (show w.heap.size + 1 ≠ gg; omega)) ?_))))) (first | (go_at_call 62; refine (text_any D _ (by omega) (by omega)).mono ?_; rintro e w8 ⟨rfl, hb8⟩; have HB8 := Lib.hid hb8; obtain ⟨hc8, hf8⟩ := bcell hb8; have zs8 := hb8.size; have zR8 : w.heap.size + 1 < w8.heap.size := (by (try simp at zs8); omega); (try (have R8 := (BR5).out.ext (ext_trans (ext_drew (ext_refl _)) hb8); obtain ⟨z80, z81, z82, z83⟩ := R8.q4; obtain ⟨fz80, fz81, fz82, fz83⟩ := R8.z4; clear R8)); (try (have R8 := (BR5).out.ext (ext_trans (ext_alloc (ext_drew (ext_refl _)) _) hb8); obtain ⟨z80, z81, z82, z83⟩ := R8.q4; obtain ⟨fz80, fz81, fz82, fz83⟩ := R8.z4; clear R8)); (try (have R8 := (BR5).out.ext (ext_trans (ext_drew (ext_alloc (ext_refl _) _)) hb8); obtain ⟨z80, z81, z82, z83⟩ := R8.q4; obtain ⟨fz80, fz81, fz82, fz83⟩ := R8.z4; clear R8))))
    all_goals go_wp2
    all_goals
     refine bodyPost_ret (v := .tuple #[schV D A4 N c4 P Q, .string (decI D), .bool ok]) (by simp [results, Tryz.results34, go_sem, *]) rfl ?_
     refine ⟨A4, N, c4, D, P, Q, L, decI D, by rw [HFIN.out.1], (fun y hy => ⟨(HFIN.out.2 y hy).1, (HFIN.out.2 y hy).2, .inl ?_⟩), ?_⟩
     · exact (by (repeat (first | (with_reducible exact O5.out) | (with_reducible refine World.ownsRow.drew ?_) | (with_reducible refine World.ownsRow.alloc ?_ _) | (with_reducible refine own_set_nb ?_ hneR.out _) | refine own_ext ?_ HB8.out)))
     · exact (by repeat (first | (with_reducible exact hw5.out) | (with_reducible refine ext_drew ?_) | (with_reducible refine ext_alloc ?_ _) | (with_reducible refine ext_set ?_ (by show w.heap.size ≤ w.heap.size + 1; omega) _) | refine ext_trans ?_ HB8.out))
set_option maxRecDepth 100000 in
set_option maxHeartbeats 4000000 in
theorem reply_leave (day pa le : Int) (A : Option Addr) (n c : Nat) (l : List R5) (line : ByteArray) (w : World) (hn : n ≤ 8) (hA : SlOk A n c) (h : Reads w w.heap.size 5 A n (rowsV l)) (hs : schB day l pa le = true) (hline : line.size ≤ 16000) (hday : 0 ≤ day ∧ day ≤ 4000)
 (W : List (List UInt8)) (x0 : List UInt8) (word : ByteArray) (vs : List Int) (hW : splitL 32 (bl line) = W) (hx0 : W[0]? = some x0) (hwd : str x0 = word) (hvs : numsO (W.drop 1) = some vs) (i1 : Int) (hvs2 : vs = [i1]) (hi1 : i1 ≤ 9223372036854775807) (hw : word = ⟨#[108, 101, 97, 118, 101]⟩) :
 Calls Tryz.prog 34 #[schV day A n c pa le, .string line] w (RetRep A n c l (rep1 (day, l, pa, le) word i1) w) := by
 have hrep : rep1 (day, l, pa, le) word i1 = (stepS day pa le l 6 i1 0).map fun s => (s, listT [s.2.2.1, s.2.2.2]) := by
  subst hw
  unfold rep1 stpQ
  rw [if_neg (by decide), if_pos rfl]
 rw [hrep]
 subst hw
 obtain ⟨O, hO⟩ : ∃ O, stepS day pa le l 6 i1 0 = O := ⟨_, rfl⟩
 have HST := Lib.hid (fun (w : World) h => (stepped_any day pa le 6 i1 0 A n c l w hA h hs (by omega)).mono (retUni _ w))
 have hOK : ∀ s, O = some s → schB s.1 s.2.1 s.2.2.1 s.2.2.2 = true := fun s h => stpQ_ok (show stpQ (day, l, pa, le) 6 i1 0 = some s from by rw [← h]; exact hO)
 rw [hO] at HST ⊢
 obtain ⟨D, hD⟩ : ∃ D, oD O = D := ⟨_, rfl⟩
 obtain ⟨P, hP⟩ : ∃ P, oP O = P := ⟨_, rfl⟩
 obtain ⟨Q, hQ⟩ : ∃ Q, oQ O = Q := ⟨_, rfl⟩
 obtain ⟨ok, hok⟩ : ∃ ok, O.isSome = ok := ⟨_, rfl⟩
 obtain ⟨L, hL⟩ : ∃ L, oL O = L := ⟨_, rfl⟩
 obtain ⟨N, hN⟩ : ∃ N, L.length = N := ⟨_, rfl⟩
 rw [hD, hP, hQ, hok, hL, hN] at HST
 have hb := oBounds O hOK
 rw [hD, hP, hQ, hL, hN] at hb
 obtain ⟨⟨hD0, hD1⟩, ⟨hP0, hP1⟩, ⟨hQ0, hQ1⟩, hN8⟩ := hb
 obtain ⟨o, ho⟩ : ∃ o, (O.map fun s => (s, listT [s.2.2.1, s.2.2.2])) = o := ⟨_, rfl⟩
 have hfin : o.isSome = ok ∧ ∀ y, o = some y → y = ((D, L, P, Q), listT [P, Q]) ∧ N = L.length := by
  rw [← ho]
  rcases O with _ | ⟨d, l', p, q⟩
  · exact ⟨hok, fun y hy => nomatch hy⟩
  · simp only [oD, oP, oQ, oL] at hD hP hQ hL
    subst hD hP hQ hL
    exact ⟨hok, fun y hy => ⟨by injection hy with hy; exact hy.symm, hN.symm⟩⟩
 rw [ho]
 have HFIN := Lib.hid hfin
 clear hrep hO hOK hD hP hQ hok hL hN ho hfin
 have HSP := Lib.hid (show ∀ w : World, Calls Tryz.prog 57 #[.string line, .int .u8 32] w (RetSlice w 9 1 W.length (strsV W)) from fun w => by rw [← hW]; exact split_any line 32 w (by omega))
 obtain ⟨hvl, hvp⟩ := numsO_some _ _ hvs
 have hWl : 1 ≤ W.length := by have := (List.getElem?_eq_some_iff.1 hx0).1; omega
 have hW8 : W.length ≤ 16001 := by
  have h1 := splitL_len 32 (bl line)
  have h2 := List.count_le_length (a := (32 : UInt8)) (l := bl line)
  rw [bl_size] at h2
  rw [hW] at h1
  omega
 have hmem : ∀ x ∈ W, (str x).size ≤ 16000 := fun x hx => by
  have h1 := splitL_mem 32 (bl line) x (by rw [hW]; exact hx)
  rw [bl_size] at h1
  have h2 : (str x).size = x.length := by rw [← bl_size, bl_str]
  omega
 have hdl : (W.drop 1).length = W.length - 1 := by simp
 obtain ⟨m, hm⟩ : ∃ m, W.length = m + 1 := ⟨W.length - 1, by omega⟩
 have hvm : vs.length = m := by omega
 have HV := Lib.hid hvp
 have HM := Lib.hid hm
 have HVM := Lib.hid hvm
 have HMEM := Lib.hid hmem
 have HX0 := Lib.hid hx0
 have HWD := Lib.hid hwd
 have H := Lib.hid h
 have HS := Lib.hid hs
 have hm16 : m ≤ 16000 := by omega
 rw [hm] at HSP
 obtain ⟨i0, hi, hz0, hz1, hz2⟩ := info_parts info_int
 have HVS := Lib.hid hvs2
 clear hvs2 h hs hW hx0 hwd hvs hvl hvp hWl hW8 hmem hdl hm hvm
 go_enter Tryz.func34, Tryz.ntmps34
 go_wp2_with fail
 refine (HSP.out _).mono ?_
 rintro e w1 ⟨Aw, cw, rfl, how, hb1⟩
 obtain ⟨g, cap, hv, hgb, hglt⟩ := how.form (by omega)
 injection hv with hv _ hcap
 subst hv hcap
 have BX := Lib.hid (((Blk.new w #[.int .i64 day, .slice A n c, .int .i64 pa, .int .i64 le] 32).ext (ext_alloc (ext_refl _) (.cells #[.int .i64 0, .slice none 0 0, .int .i64 0, .int .i64 0] 32))).ext hb1)
 have BR : Hid (Blk w1 (w.heap.size + 1) 32 #[.int .i64 0, .slice none 0 0, .int .i64 0, .int .i64 0]) := Lib.hid (by
  have := (Blk.new (w.alloc (.cells #[.int .i64 day, .slice A n c, .int .i64 pa, .int .i64 le] 32)) #[.int .i64 0, .slice none 0 0, .int .i64 0, .int .i64 0] 32).ext hb1
  simpa using this)
 have hw1 := Lib.hid (ext_trans (ext_alloc (ext_alloc (ext_refl w) _) _) hb1)
 have s1 : w.heap.size + 1 < w1.heap.size := by have := hb1.size; simp at this; omega
 have hgs : w.heap.size + 1 < g := by simp at hgb; omega
 have hcw : m + 1 ≤ cw := own_cap3 how
 have HOW := Lib.hid (own_base (base' := 0) how (Nat.zero_le _))
 have HC0 : Hid (∀ (k : Nat) (x : List UInt8), W[k]? = some x → w1.cell? ⟨g, k, none⟩ = some (.string (str x))) := Lib.hid (fun k x hx => by
  rw [how.cellAt k (by have := (List.getElem?_eq_some_iff.1 hx).1; have := HM.out; omega)]
  simp [strsV, hx])
 clear hb1 how hgb
 go_upto_region 3 with fail
 go_cut [30, 31, 32] (fun s30 s31 s32 wx => ∃ (A2 : Option Addr) (c2 : Nat), s30 = .slice A2 m c2 ∧ s31 = .int .i64 m ∧ s32 = .int .i64 0 ∧ wx = w1 ∧ (0 < m → A2 = some ⟨g, 1, none⟩))
 case first =>
  by_cases hc1 : cw = 1
  · subst hc1
    obtain rfl : m = 0 := by omega
    go_wp2_with fail
    go_meet
    exact ⟨_, _, rfl, rfl, rfl, rfl, fun hm0 => absurd hm0 (by omega)⟩
  · go_wp2_with fail
    go_meet
    exact ⟨_, _, rfl, rfl, rfl, rfl, fun _ => rfl⟩
 case rest =>
 obtain ⟨A2, c2, rfl, rfl, rfl, rfl, hA2⟩ := hcut
 have HA2 := Lib.hid hA2
 clear hA2 hcw
 go_wp2_with fail
 go_loopw [8, 32] (fun v i wr => ∃ k : Nat, k ≤ m ∧ i = .int .i64 k ∧ Hid (wr.ownsRow wc.heap.size 3 1 v k (intsV (vs.take k))) ∧ Hid (Below wc.heap.size wc wr)) (fun _ i _ => m - (intOf i).toNat)
 case atStart => exact ⟨0, Nat.zero_le _, rfl, Lib.hid (World.ownsRow_nil _ _ _ _), Lib.hid (ext_refl _)⟩
 case round =>
  obtain ⟨k, hk, rfl, hown, HB⟩ := hrel
  by_cases hlt : k < m
  · obtain ⟨x, hx⟩ := list_split (l := W) (k := 1 + k) (by rw [HM.out]; omega)
    obtain ⟨v, hv, hp⟩ := HV.out k x (by rw [List.getElem?_drop]; exact hx)
    have hxs := HMEM.out x (List.mem_of_getElem? hx)
    have HPI := Lib.hid (fun (w : World) => implParseInt_any (str x) w (by omega))
    rw [hp] at HPI
    have c0 := ext_cell HB.out (HC0.out (1 + k) x hx)
    have hgw : g < wr.heap.size := Nat.lt_of_lt_of_le hglt HB.out.size
    have hnew : Hid (intsV (vs.take (k + 1)) = intsV (vs.take k) ++ [.int .i64 v]) := Lib.hid (by rw [List.take_add_one, hv]; simp [intsV])
    have hA3 := HA2.out (by omega)
    subst hA3
    have m1 : k + 1 ≤ maxLen := by unfold maxLen; omega
    have m2 : (k + 1) * 8 ≤ 140737488355328 := by omega
    have hlt' : (k : Int) < (m : Int) := by omega
    clear hx hv hp
    go_wp2_with fail
    refine (HPI.out _).mono ?_
    rintro e w5 ⟨rfl, hb⟩
    have hown5 := Lib.hid (own_ext hown.out hb)
    have HB5 := Lib.hid (ext_trans HB.out hb)
    have hSome : (some v).isSome = true := rfl
    clear hb c0
    go_wp2_with (at_builtin; refine wpList_append_own _ rfl (.tmp 44) (.tmp 46) 53 rfl wc.heap.size 3 i0 _ 1 8 Tryz.underlying53 hi hz0 hz1 hz2 rfl (by decide) _ _ _ rfl (hown5.out.alloc _) _ 1 1 [.int .i64 v] rfl rfl (cell_one_at _ _ _ (by simp)) (by simp [Value.oneCell']) m1 m2 (by have := HB5.out.size; simp; omega) ?_; intro v' w2 hown2 hgrow _)
    go_roundw
    case rel =>
     refine ⟨k + 1, by omega, by go_num, ?_, Lib.hid (below_grown hown5.out (ext_alloc HB5.out _) hgrow)⟩
     refine Lib.hid ?_
     rw [hnew.out]
     exact hown2
    case measure => simp [intOf]; omega
  · obtain rfl : k = m := by omega
    have hown1 := hown.out
    rw [List.take_of_length_le (by rw [HVM.out]; exact Nat.le_refl _)] at hown1
    obtain ⟨An, cn, rfl⟩ := own_shape hown1
    have hvs2 := HVS.out
    subst hvs2
    clear HVS
    obtain rfl : k = 1 := HVM.out.symm
    have BXr := Lib.hid (BX.out.ext HB.out)
    have BRr := Lib.hid (BR.out.ext HB.out)
    have hwr := Lib.hid (ext_trans hw1.out HB.out)
    have hgw : g < wr.heap.size := Nat.lt_of_lt_of_le hglt HB.out.size
    have sX := BXr.out.lt
    have sR := BRr.out.lt
    have cw0 := ext_cell HB.out (HC0.out 0 x0 HX0.out)
    rw [HWD.out] at cw0
    obtain ⟨x0r, x1r, x2r, x3r⟩ := BXr.out.q4
    obtain ⟨y0r, y1r, y2r, y3r⟩ := BRr.out.q4
    obtain ⟨fy0r, fy1r, fy2r, fy3r⟩ := BRr.out.z4
    obtain ⟨gn, capn, hvn, hgnb, hgnlt⟩ := hown1.form (by omega)
    injection hvn with hvn _ hcapn
    subst hvn hcapn
    have n0 : wr.cell? ⟨gn, 0, none⟩ = some (.int .i64 i1) := by rw [hown1.cellAt 0 (by omega)]; rfl
    have HON := Lib.hid hown1
    clear hown hown1 HSP HV HMEM HC0 HOW BX BR hw1
    go_upto_region 24 with fail
    go_cut [21, 22] (fun sP sOk wx => ∃ (gg : Nat) (A4 : Option Addr) (c4 : Nat), sP = .pointer (some ⟨gg, 0, none⟩) ∧ sOk = .bool ok ∧ wr.heap.size ≤ gg ∧ Blk wx gg 32 #[.int .i64 D, .slice A4 N c4, .int .i64 P, .int .i64 Q] ∧ wx.ownsRow w.heap.size 111 5 (.slice A4 N c4) N (rowsV L) ∧ Below wr.heap.size wr wx)
    case first =>
     go_region_held3 (fun w' => w'.cell? ⟨w.heap.size, 0, none⟩ = some (.int .i64 day) ∧ w'.cell? ⟨w.heap.size, 1, none⟩ = some (.slice A n c) ∧ w'.cell? ⟨w.heap.size, 2, none⟩ = some (.int .i64 pa) ∧ w'.cell? ⟨w.heap.size, 3, none⟩ = some (.int .i64 le) ∧ w'.cell? ⟨gn, 0, none⟩ = some (.int .i64 i1)) (first | (go_split_ands; ((repeat' refine And.intro ?_ ?_) <;> with_reducible (repeat (first | assumption | refine cell_drew ?_ | refine cell_old ?_ _ | refine cell_set_far (by first | (show wr.heap.size ≠ w.heap.size; omega) | (show wr.heap.size ≠ gn; omega)) ?_))))) (first | (go_at_call 60; refine (HST.out _ ((H.out.ext (by repeat (first | (with_reducible exact hwr.out) | (with_reducible refine ext_drew ?_) | (with_reducible refine ext_alloc ?_ _))) (Nat.le_refl _)).more (by (try simp); omega))).mono ?_; rintro e w4 ⟨A4, c4, rfl, ho4, hb4⟩; have ho4 := Lib.hid ho4; obtain ⟨hc4, hf4⟩ := bcell hb4; have z4 := hb4.size; (try simp at z4); have k0 : w4.cell? ⟨w.heap.size, 0, none⟩ = some (.int .i64 day) := ext_cell hb4 (by with_reducible (repeat (first | exact x0r | refine cell_drew ?_ | refine cell_old ?_ _))); have k1 : w4.cell? ⟨w.heap.size, 1, none⟩ = some (.slice A n c) := ext_cell hb4 (by with_reducible (repeat (first | exact x1r | refine cell_drew ?_ | refine cell_old ?_ _))); have k2 : w4.cell? ⟨w.heap.size, 2, none⟩ = some (.int .i64 pa) := ext_cell hb4 (by with_reducible (repeat (first | exact x2r | refine cell_drew ?_ | refine cell_old ?_ _))); have k3 : w4.cell? ⟨w.heap.size, 3, none⟩ = some (.int .i64 le) := ext_cell hb4 (by with_reducible (repeat (first | exact x3r | refine cell_drew ?_ | refine cell_old ?_ _))); have k4 : w4.cell? ⟨gn, 0, none⟩ = some (.int .i64 i1) := ext_cell hb4 (by with_reducible (repeat (first | exact n0 | refine cell_drew ?_ | refine cell_old ?_ _)))))
     all_goals (go_wp2_with fail; go_meet)
     all_goals refine ⟨_, A4, c4, rfl, rfl, ?_, ?_, ?_, ?_⟩
     all_goals first
      | with_reducible exact Nat.le_refl _
      | (with_reducible refine le_id ?_; (try simp at z4); (try simp); omega)
      | with_reducible exact Blk.new _ _ _
      | (with_reducible refine blk_id ?_
         have := (((((Blk.new wr #[.int .i64 0, .slice none 0 0, .int .i64 0, .int .i64 0] 32).ext (ext_drew (ext_refl _))).ext hb4).set_ 0 (.int .i64 D)).set_ 1 (.slice A4 N c4)).set_ 2 (.int .i64 P) |>.set_ 3 (.int .i64 Q)
         simpa using this)
      | (with_reducible refine blk_id ?_
         have := (((((Blk.new wr.drew #[.int .i64 0, .slice none 0 0, .int .i64 0, .int .i64 0] 32)).ext hb4).set_ 0 (.int .i64 D)).set_ 1 (.slice A4 N c4)).set_ 2 (.int .i64 P) |>.set_ 3 (.int .i64 Q)
         simpa using this)
      | (with_reducible refine own_base (ho4.out.alloc _) ?_; (try simp); omega)
      | (have hne4 : Value.ownBlock (.slice A4 N c4) ≠ some wr.heap.size := own_far_lt ho4.out (by simp)
         iterate 4 with_reducible refine own_set_nb ?_ hne4 _
         exact own_base ho4.out (by (try simp); omega))
      | (with_reducible refine ext_alloc ?_ _; exact ext_trans (ext_drew (ext_refl _)) hb4)
      | (iterate 4 with_reducible refine ext_set ?_ (Nat.le_refl _) _
         exact ext_trans (ext_drew (ext_alloc (ext_refl _) _)) hb4)
      | (iterate 4 with_reducible refine ext_set ?_ (Nat.le_refl _) _
         exact ext_trans (ext_alloc (ext_drew (ext_refl _)) _) hb4)
    case rest =>
    obtain ⟨gg, A4, c4, rfl, rfl, hgg, hG5, ho5, hb5⟩ := hcut
    obtain ⟨w5, hw5⟩ : ∃ w5, w5 = wc := ⟨_, rfl⟩
    subst hw5
    have G5 := Lib.hid hG5
    have O5 := Lib.hid ho5
    clear hG5 ho5
    have BX5 := Lib.hid (BXr.out.ext hb5)
    have BR5 := Lib.hid (BRr.out.ext hb5)
    have hw5 := Lib.hid (ext_trans hwr.out hb5)
    have n50 := ext_cell hb5 n0
    have s5 := hb5.size
    have hg5 : g < w5.heap.size := by omega
    have hgn5 : gn < w5.heap.size := by omega
    have sX5 := BX5.out.lt
    have sR5 := BR5.out.lt
    obtain ⟨x50, x51, x52, x53⟩ := BX5.out.q4
    obtain ⟨y50, y51, y52, y53⟩ := BR5.out.q4
    obtain ⟨fy50, fy51, fy52, fy53⟩ := BR5.out.z4
    clear x0r x1r x2r x3r y0r y1r y2r y3r fy0r fy1r fy2r fy3r cw0 n0 hb5
    obtain ⟨q0, q1, q2, q3⟩ := G5.out.q4
    have sG5 := G5.out.lt
    have hneR := Lib.hid (own_nb O5.out BR5.out (by decide))
    have hneG : gg ≠ w.heap.size + 1 := by omega
    go_wp2_with fail
    go_region_held3 (fun w' => w'.cell? ⟨gg, 0, none⟩ = some (.int .i64 D) ∧ w'.cell? ⟨gg, 1, none⟩ = some (.slice A4 N c4) ∧ w'.cell? ⟨gg, 2, none⟩ = some (.int .i64 P) ∧ w'.cell? ⟨gg, 3, none⟩ = some (.int .i64 Q)) (first | (go_split_ands; ((repeat' refine And.intro ?_ ?_) <;> with_reducible (repeat (first | assumption | refine cell_drew ?_ | refine cell_old ?_ _ | refine ext_cell hb8 ?_ | refine cell_set_far (by first | (show w.heap.size + 1 ≠ gg; omega)) ?_))))) (first | (go_at_call 63; refine (listed_any _ 2 2 [P, Q] _ (by omega) (small2 (by omega) (by omega)) (reads_two (by first | (with_reducible exact Blk.new _ _ _) | (iterate 4 with_reducible refine Blk.set_far ?_ (by (try simp); omega) _; exact Blk.new _ _ _) | (refine Blk.ext ?_ (ext_drew (ext_refl _)); with_reducible exact Blk.new _ _ _)))).mono ?_; rintro e w8 ⟨rfl, hb8⟩; have HB8 := Lib.hid hb8; obtain ⟨hc8, hf8⟩ := bcell hb8; have zs8 := hb8.size; have zR8 : w.heap.size + 1 < w8.heap.size := (by (try simp at zs8); omega); (try (have R8 := (BR5).out.ext (ext_trans (ext_drew (ext_refl _)) hb8); obtain ⟨z80, z81, z82, z83⟩ := R8.q4; obtain ⟨fz80, fz81, fz82, fz83⟩ := R8.z4; clear R8)); (try (have R8 := (BR5).out.ext (ext_trans (ext_alloc (ext_drew (ext_refl _)) _) hb8); obtain ⟨z80, z81, z82, z83⟩ := R8.q4; obtain ⟨fz80, fz81, fz82, fz83⟩ := R8.z4; clear R8)); (try (have R8 := (BR5).out.ext (ext_trans (ext_drew (ext_alloc (ext_refl _) _)) hb8); obtain ⟨z80, z81, z82, z83⟩ := R8.q4; obtain ⟨fz80, fz81, fz82, fz83⟩ := R8.z4; clear R8))))
    all_goals go_wp2
    all_goals
     refine bodyPost_ret (v := .tuple #[schV D A4 N c4 P Q, .string (listT [P, Q]), .bool ok]) (by simp [results, Tryz.results34, go_sem, *]) rfl ?_
     refine ⟨A4, N, c4, D, P, Q, L, listT [P, Q], by rw [HFIN.out.1], (fun y hy => ⟨(HFIN.out.2 y hy).1, (HFIN.out.2 y hy).2, .inl ?_⟩), ?_⟩
     · exact (by (repeat (first | (with_reducible exact O5.out) | (with_reducible refine World.ownsRow.drew ?_) | (with_reducible refine World.ownsRow.alloc ?_ _) | (with_reducible refine own_set_nb ?_ hneR.out _) | refine own_ext ?_ HB8.out)))
     · exact (by repeat (first | (with_reducible exact hw5.out) | (with_reducible refine ext_drew ?_) | (with_reducible refine ext_alloc ?_ _) | (with_reducible refine ext_set ?_ (by show w.heap.size ≤ w.heap.size + 1; omega) _) | refine ext_trans ?_ HB8.out))
end Go.Proofs.YtkcbgiegoadkbaaGreat
