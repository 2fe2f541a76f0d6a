/- The reference executes a command: l28Word, l28Run. -/
import Derived.Test.YtkcbgiegoadkbaaGreatVSpO
namespace Go.Proofs.YtkcbgiegoadkbaaGreat
open Go.RowKit
set_option linter.unusedVariables false
set_option linter.unusedSimpArgs false
theorem rep0_q (q : Sch4) (line : ByteArray) : afQ q (rep0 q line) = q := by
 unfold rep0
 repeat' split
 all_goals rfl
theorem l28One_any (day pa le : Int) (d p : ByteArray) (z : Int) (A : Option Addr) (n c : Nat) (l : List R5) (word : ByteArray) (id : Int) (w : World) (hn : n ≤ 8) (hnc : n ≤ c) (hA : SlOk A n c) (h : Reads w w.heap.size 5 A n (rowsV l)) (hs : schB day l pa le = true) :
 Calls Tryz.prog 75 #[conV day A n c pa le d p z, .string word, .int .i64 id] w (RetC A c l (day, l, pa, le) d p z (rep1 (day, l, pa, le) word id) w) := by
 by_cases h0 : word = ⟨#[119, 97, 105, 116]⟩
 · have := l28One_wait day pa le d p z A n c l w hn hnc hA h hs word id h0
   unfold rep1; rw [if_pos h0]; exact this
 by_cases h1 : word = ⟨#[108, 101, 97, 118, 101]⟩
 · have := l28One_leave day pa le d p z A n c l w hn hnc hA h hs word id h1
   unfold rep1; rw [if_neg h0, if_pos h1]; exact this
 by_cases h2 : word = ⟨#[109, 105, 115, 115, 105, 110, 103]⟩
 · have := l28One_missing day pa le d p z A n c l w hn hnc hA h hs word id h2
   unfold rep1; rw [if_neg h0, if_neg h1, if_pos h2]; exact this
 by_cases h3 : word = ⟨#[116, 101, 120, 116]⟩
 · have := l28One_text day pa le d p z A n c l w hn hnc hA h hs word id h3
   unfold rep1; rw [if_neg h0, if_neg h1, if_neg h2, if_pos h3]; exact this
 have := l28One_no day pa le d p z A n c l w hn hnc hA h hs word id h0 h1 h2 h3
 unfold rep1; rw [if_neg h0, if_neg h1, if_neg h2, if_neg h3]; exact this
theorem l28Two_any (day pa le : Int) (d p : ByteArray) (z : Int) (A : Option Addr) (n c : Nat) (l : List R5) (word : ByteArray) (id v : Int) (w : World) (hn : n ≤ 8) (hnc : n ≤ c) (hA : SlOk A n c) (h : Reads w w.heap.size 5 A n (rowsV l)) (hs : schB day l pa le = true) :
 Calls Tryz.prog 76 #[conV day A n c pa le d p z, .string word, .int .i64 id, .int .i64 v] w (RetC A c l (day, l, pa, le) d p z (rep2 (day, l, pa, le) word id v) w) := by
 have hr : ∀ k : Int, kindB word = k → 0 < k → k ≠ 1 → k ≠ 6 → rep2 (day, l, pa, le) word id v = mkO (day, l, pa, le) k id v := by
  intro k hk h0 h1 h6
  unfold rep2 mkO
  rw [hk, if_pos h0]
  simp only [if_neg h1, if_neg h6]
  rcases stpQ (day, l, pa, le) k id v with _ | s <;> rfl
 rcases kind_cases word with ⟨hk, hw⟩ | ⟨hk, hw⟩ | ⟨hk, hw⟩ | ⟨hk, hw⟩ | ⟨hk, h0, h1, h2, h3⟩
 · rw [hr _ hk (by decide) (by decide) (by decide)]; exact l28Two_2 day pa le d p z A n c l w hn hnc hA h hs word id v hw
 · rw [hr _ hk (by decide) (by decide) (by decide)]; exact l28Two_3 day pa le d p z A n c l w hn hnc hA h hs word id v hw
 · rw [hr _ hk (by decide) (by decide) (by decide)]; exact l28Two_4 day pa le d p z A n c l w hn hnc hA h hs word id v hw
 · rw [hr _ hk (by decide) (by decide) (by decide)]; exact l28Two_5 day pa le d p z A n c l w hn hnc hA h hs word id v hw
 · have := l28Two_no day pa le d p z A n c l w hn hnc hA h hs word id v h0 h1 h2 h3
   unfold rep2; rw [if_neg (by omega)]; exact this
set_option maxRecDepth 100000 in
set_option maxHeartbeats 2000000 in
theorem l28Word_ready (day pa le : Int) (A : Option Addr) (n c : Nat) (l : List R5) (w : World) (hn : n ≤ 8) (h : Reads w w.heap.size 5 A n (rowsV l)) (hs : schB day l pa le = true) :
 Calls Tryz.prog 74 #[schV day A n c pa le, .string ⟨#[114, 101, 97, 100, 121]⟩] w fun e w' => e = .returned (.string (listT (selB (readyR day) day pa le l))) ∧ Below w.heap.size w w' := by
 have hlen := selB_len (readyR day) day pa le l
 rw [rows_len h] at hlen
 have hsm := selB_small (p := readyR day) hs
 have HSL := Lib.hid (fun (w : World) h => specReady_any day pa le A n c l w (by omega) h)
 rw [hs] at HSL
 have H := Lib.hid h
 obtain ⟨ns, hns⟩ : ∃ ns, selB (readyR day) day pa le l = ns := ⟨_, rfl⟩
 rw [hns] at HSL hlen hsm ⊢
 obtain ⟨N, hN⟩ : ∃ N, ns.length = N := ⟨_, rfl⟩
 rw [hN] at HSL hlen
 have HSM := Lib.hid hsm
 clear hns hN hsm h hs
 go_enter Tryz.func74, Tryz.ntmps74
 go_wp2_with fail
 refine (HSL.out _ ((H.out.ext (ext_alloc (ext_refl _) _) (Nat.le_refl _)).more (by simp))).mono ?_
 rintro e w1 ⟨As, cs, rfl, hos, hb1⟩
 have HOS := Lib.hid hos
 have b1 := Lib.hid (ext_trans (ext_alloc (ext_refl w) _) hb1)
 clear hos hb1
 go_wp2_with fail
 refine (l28List_yes As N cs ns _ (by omega) HSM.out (Reads.of_own HOS.out)).mono ?_
 rintro e w2 ⟨rfl, hb2⟩
 go_wp2
 go_ret
 exact ⟨rfl, ext_trans b1.out hb2⟩
set_option maxRecDepth 100000 in
set_option maxHeartbeats 2000000 in
theorem l28Word_unpaid (day pa le : Int) (A : Option Addr) (n c : Nat) (l : List R5) (w : World) (hn : n ≤ 8) (h : Reads w w.heap.size 5 A n (rowsV l)) (hs : schB day l pa le = true) :
 Calls Tryz.prog 74 #[schV day A n c pa le, .string ⟨#[117, 110, 112, 97, 105, 100]⟩] w fun e w' => e = .returned (.string (listT (selB (unpR day) day pa le l))) ∧ Below w.heap.size w w' := by
 have hlen := selB_len (unpR day) day pa le l
 rw [rows_len h] at hlen
 have hsm := selB_small (p := unpR day) hs
 have HSL := Lib.hid (fun (w : World) h => specUnp_any day pa le A n c l w (by omega) h)
 rw [hs] at HSL
 have H := Lib.hid h
 obtain ⟨ns, hns⟩ : ∃ ns, selB (unpR day) day pa le l = ns := ⟨_, rfl⟩
 rw [hns] at HSL hlen hsm ⊢
 obtain ⟨N, hN⟩ : ∃ N, ns.length = N := ⟨_, rfl⟩
 rw [hN] at HSL hlen
 have HSM := Lib.hid hsm
 clear hns hN hsm h hs
 go_enter Tryz.func74, Tryz.ntmps74
 go_wp2_with fail
 refine (HSL.out _ ((H.out.ext (ext_alloc (ext_refl _) _) (Nat.le_refl _)).more (by simp))).mono ?_
 rintro e w1 ⟨As, cs, rfl, hos, hb1⟩
 have HOS := Lib.hid hos
 have b1 := Lib.hid (ext_trans (ext_alloc (ext_refl w) _) hb1)
 clear hos hb1
 go_wp2_with fail
 refine (l28List_yes As N cs ns _ (by omega) HSM.out (Reads.of_own HOS.out)).mono ?_
 rintro e w2 ⟨rfl, hb2⟩
 go_wp2
 go_ret
 exact ⟨rfl, ext_trans b1.out hb2⟩
set_option maxHeartbeats 2000000 in
theorem l28Word_any (day pa le : Int) (A : Option Addr) (n c : Nat) (l : List R5) (line : ByteArray) (w : World) (hn : n ≤ 8) (h : Reads w w.heap.size 5 A n (rowsV l)) (hs : schB day l pa le = true) :
 Calls Tryz.prog 74 #[schV day A n c pa le, .string line] w fun e w' => e = .returned (.string (afT (rep0 (day, l, pa, le) line))) ∧ Below w.heap.size w w' := by
 obtain ⟨hd0, hd1⟩ := schB_day hs
 by_cases h0 : line = ⟨#[100, 97, 121]⟩
 · subst h0
   rw [show afT (rep0 (day, l, pa, le) ⟨#[100, 97, 121]⟩) = decI day from by unfold rep0; rw [if_pos rfl]; rfl]
   clear h hs
   go_enter Tryz.func74, Tryz.ntmps74
   go_wp2_with (go_at_call 45; refine (l1Num_any _ _ (by omega) (by omega)).mono ?_; rintro e w1 ⟨rfl, hb1⟩)
   go_ret
   exact ⟨rfl, ext_trans (ext_alloc (ext_refl _) _) hb1⟩
 by_cases h1 : line = ⟨#[114, 101, 97, 100, 121]⟩
 · have := l28Word_ready day pa le A n c l w hn h hs
   rw [h1]
   exact this
 by_cases h2 : line = ⟨#[117, 110, 112, 97, 105, 100]⟩
 · have := l28Word_unpaid day pa le A n c l w hn h hs
   rw [h2]
   exact this
 rw [show afT (rep0 (day, l, pa, le) line) = ⟨#[63]⟩ from by unfold rep0; rw [if_neg h0, if_neg h1, if_neg h2]; rfl]
 have b0 : (line.toList == [100, 97, 121]) = false := lit_no h0 rfl
 have b1 : (line.toList == [114, 101, 97, 100, 121]) = false := lit_no h1 rfl
 have b2 : (line.toList == [117, 110, 112, 97, 105, 100]) = false := lit_no h2 rfl
 clear h hs h0 h1 h2
 go_enter Tryz.func74, Tryz.ntmps74
 go_wp2
 go_ret
 exact ⟨rfl, ext_alloc (ext_refl _) _⟩
set_option maxRecDepth 100000 in
set_option maxHeartbeats 4000000 in
theorem l28Run_bad (day pa le : Int) (d p : ByteArray) (z : Int) (A : Option Addr) (n c : Nat) (l : List R5) (w : World) (hn : n ≤ 8) (hnc : n ≤ c) (hA : SlOk A n c) (h : Reads w w.heap.size 5 A n (rowsV l)) (hs : schB day l pa le = true) (line : ByteArray) (hline : line.size ≤ 16000)
 (W : List (List UInt8)) (x0 : List UInt8) (word : ByteArray) (hW : splitL 32 (bl line) = W) (hx0 : W[0]? = some x0) (hwd : str x0 = word) (hvs : numsO (W.drop 1) = none) :
 Calls Tryz.prog 43 #[conV day A n c pa le d p z, .string line] w (RetC A c l (day, l, pa, le) d p z (none) w) := by
 have HSP := Lib.hid (show ∀ w : World, Calls Tryz.prog 30 #[.string line, .int .u8 32] w (RetSlice w 9 1 W.length (strsV W)) from fun w => by rw [← hW]; exact l1Split_any line 32 w (by omega))
 obtain ⟨ib, xb, hib, hpb, hvp⟩ := numsO_bad _ hvs
 have hibl := (List.getElem?_eq_some_iff.1 hib).1
 have hWl : 1 ≤ W.length := by have := (List.getElem?_eq_some_iff.1 hx0).1; omega
 have hW8 : W.length ≤ 16001 := by
  have h1 := splitL_len 32 (bl line)
  have h2 := List.count_le_length (a := (32 : UInt8)) (l := bl line)
  rw [bl_size] at h2
  rw [hW] at h1
  omega
 have hmem : ∀ x ∈ W, (str x).size ≤ 16000 := fun x hx => by
  have h1 := splitL_mem 32 (bl line) x (by rw [hW]; exact hx)
  rw [bl_size] at h1
  have h2 : (str x).size = x.length := by rw [← bl_size, bl_str]
  omega
 have hdl : (W.drop 1).length = W.length - 1 := by simp
 obtain ⟨m, hm⟩ : ∃ m, W.length = m + 1 := ⟨W.length - 1, by omega⟩
 have hibm : ib < m := by omega
 have HIB := Lib.hid hib
 have HPB := Lib.hid hpb
 clear hib hpb hibl
 have HV := Lib.hid hvp
 have HM := Lib.hid hm
 have HMEM := Lib.hid hmem
 have HX0 := Lib.hid hx0
 have HWD := Lib.hid hwd
 have H := Lib.hid h
 have HLN := Lib.hid (rows_len h)
 have HS := Lib.hid hs
 have hm16 : m ≤ 16000 := by omega
 rw [hm] at HSP
 obtain ⟨i0, hi, hz0, hz1, hz2⟩ := info_parts info_int
 clear h hs hW hx0 hwd hvs hvp hWl hW8 hmem hdl hm
 go_enter Tryz.func43, Tryz.ntmps43
 go_wp2_with fail
 refine (HSP.out _).mono ?_
 rintro e w1 ⟨Aw, cw, rfl, how, hb1⟩
 obtain ⟨g, cap, hv, hgb, hglt⟩ := how.form (by omega)
 injection hv with hv _ hcap
 subst hv hcap
 have BX : Hid (Blk w1 w.heap.size 34 #[.int .i64 day, .slice A n c, .int .i64 pa, .int .i64 le, .string d, .string p, .int .i64 z]) := Lib.hid ((((Blk.new w _ _).ext (ext_alloc (ext_refl _) _))).ext hb1)
 have BR : Hid (Blk w1 (w.heap.size + 1) 34 #[.int .i64 0, .slice none 0 0, .int .i64 0, .int .i64 0, .string ⟨#[]⟩, .string ⟨#[]⟩, .int .i64 0]) := Lib.hid (by
  have := (Blk.new (w.alloc (.cells #[.int .i64 day, .slice A n c, .int .i64 pa, .int .i64 le, .string d, .string p, .int .i64 z] 34)) #[.int .i64 0, .slice none 0 0, .int .i64 0, .int .i64 0, .string ⟨#[]⟩, .string ⟨#[]⟩, .int .i64 0] 34).ext hb1
  simpa using this)
 have hw1 := Lib.hid (ext_trans (ext_alloc (ext_alloc (ext_refl w) _) _) hb1)
 have s1 : w.heap.size + 1 < w1.heap.size := by have := hb1.size; simp at this; omega
 have hgs : w.heap.size + 1 < g := by simp at hgb; omega
 have HC0 : Hid (∀ (k : Nat) (x : List UInt8), W[k]? = some x → w1.cell? ⟨g, k, none⟩ = some (.string (str x))) := Lib.hid (fun k x hx => by
  rw [how.cellAt k (by have := (List.getElem?_eq_some_iff.1 hx).1; have := HM.out; omega)]
  simp [strsV, hx])
 clear hb1 how hgb
 go_wp2_with fail
 go_loopw [7, 8] (fun v i wr => ∃ (j : Nat) (us : List Int), 1 ≤ j ∧ j ≤ ib + 1 ∧ i = .int .i64 j ∧ Hid (wr.ownsRow w1.heap.size 3 1 v (j - 1) (intsV us)) ∧ Hid (Below w1.heap.size w1 wr)) (fun _ i _ => m + 1 - (intOf i).toNat)
 case atStart => exact ⟨1, [], Nat.le_refl _, by omega, rfl, Lib.hid (own_lit0 w1 3 1), Lib.hid (ext_alloc (ext_refl _) _)⟩
 case round =>
  obtain ⟨j, us, hj1, hj, rfl, hown, HB⟩ := hrel
  have hkm : j < m + 1 := by omega
  by_cases hlt : j < ib + 1
  · obtain ⟨x, hx⟩ := list_split (l := W) (k := j) (by rw [HM.out]; omega)
    obtain ⟨v, hp⟩ := HV.out (j - 1) x (by omega) (by rw [List.getElem?_drop, show 1 + (j - 1) = j from by omega]; exact hx)
    have hxs := HMEM.out x (List.mem_of_getElem? hx)
    have HPI := Lib.hid (fun (w : World) => specParseInt_any (str x) w (by omega))
    rw [hp] at HPI
    have c0 := ext_cell HB.out (HC0.out j x hx)
    have hgw : g < wr.heap.size := Nat.lt_of_lt_of_le hglt HB.out.size
    have hnew : Hid (intsV (us ++ [v]) = intsV us ++ [.int .i64 v]) := Lib.hid (by simp [intsV])
    have m1 : j - 1 + 1 ≤ maxLen := by unfold maxLen; omega
    have m2 : (j - 1 + 1) * 8 ≤ 140737488355328 := by omega
    have hlt' : (j : Int) < ((m + 1 : Nat) : Int) := by omega
    have hlt2 : (j : Int) < (m : Int) + 1 := by omega
    clear hx hp
    go_wp2_with fail
    refine (HPI.out _).mono ?_
    rintro e w5 ⟨rfl, hb⟩
    have hown5 := Lib.hid (own_ext hown.out hb)
    have HB5 := Lib.hid (ext_trans HB.out hb)
    have hSome : (some v).isSome = true := rfl
    clear hb c0
    go_wp2_with (at_builtin; refine wpList_append_own _ rfl (.tmp 31) (.tmp 33) 53 rfl w1.heap.size 3 i0 _ 1 8 Tryz.underlying53 hi hz0 hz1 hz2 rfl (by decide) _ _ _ rfl (hown5.out.alloc _) _ 1 1 [.int .i64 v] rfl rfl (cell_one_at _ _ _ (by simp)) (by simp [Value.oneCell']) m1 m2 (by have := HB5.out.size; simp; omega) ?_; intro v' w2 hown2 hgrow _)
    go_roundw
    case rel =>
     refine ⟨j + 1, us ++ [v], by omega, by omega, by go_num, ?_, Lib.hid (below_grown hown5.out (ext_alloc HB5.out _) hgrow)⟩
     refine Lib.hid ?_
     rw [show j + 1 - 1 = j - 1 + 1 from by omega, hnew.out]
     exact hown2
    case measure => simp [intOf]; omega
  · obtain rfl : j = ib + 1 := by omega
    have hx := HIB.out
    rw [List.getElem?_drop, Nat.add_comm] at hx
    have hxs := HMEM.out xb (List.mem_of_getElem? hx)
    have HPI := Lib.hid (fun (w : World) => specParseInt_any (str xb) w (by omega))
    rw [HPB.out] at HPI
    have c0 := ext_cell HB.out (HC0.out (ib + 1) xb hx)
    have hgw : g < wr.heap.size := Nat.lt_of_lt_of_le hglt HB.out.size
    have hlt' : ((ib + 1 : Nat) : Int) < ((m + 1 : Nat) : Int) := by omega
    have hlt2 : (ib : Int) + 1 < (m : Int) + 1 := by omega
    have BXr := Lib.hid (BX.out.ext HB.out)
    have BRr := Lib.hid (BR.out.ext HB.out)
    have hwr := Lib.hid (ext_trans hw1.out HB.out)
    clear hx
    go_wp2_with fail
    refine (HPI.out _).mono ?_
    rintro e w5 ⟨rfl, hb5⟩
    have hNone : (none : Option Int).isSome = false := rfl
    have BX5 := Lib.hid (BXr.out.ext hb5)
    have BR5 := Lib.hid (BRr.out.ext hb5)
    have hw5 := Lib.hid (ext_trans hwr.out hb5)
    have sX5 := BX5.out.lt
    have sR5 := BR5.out.lt
    clear c0 hb5
    obtain ⟨x0, x1, x2, x3, x4, x5, x6⟩ := BX5.out.q7
    obtain ⟨r0, r1, r2, r3, r4, r5, r6⟩ := BR5.out.q7
    obtain ⟨fr0, fr1, fr2, fr3, fr4, fr5, fr6⟩ := BR5.out.z7
    go_wp2
    refine bodyPost_ret (v := .tuple #[conV day A n c pa le d p z, .string ⟨#[63]⟩]) (by simp [results, Tryz.results43, go_sem, *]) rfl ?_
    refine ⟨A, n, c, day, pa, le, l, rfl, rfl, HLN.out.symm, .inr ⟨rfl, rfl, rfl⟩, ?_⟩
    iterate 7 refine ext_set ?_ (by show w.heap.size ≤ w.heap.size + 1; omega) _
    exact hw5.out
set_option maxRecDepth 100000 in
set_option maxHeartbeats 4000000 in
theorem l28Run_3 (day pa le : Int) (d p : ByteArray) (z : Int) (A : Option Addr) (n c : Nat) (l : List R5) (w : World) (hn : n ≤ 8) (hnc : n ≤ c) (hA : SlOk A n c) (h : Reads w w.heap.size 5 A n (rowsV l)) (hs : schB day l pa le = true) (line : ByteArray) (hline : line.size ≤ 16000)
 (W : List (List UInt8)) (x0 : List UInt8) (word : ByteArray) (vs : List Int) (hW : splitL 32 (bl line) = W) (hx0 : W[0]? = some x0) (hwd : str x0 = word) (hvs : numsO (W.drop 1) = some vs) (hvs2 : 3 ≤ vs.length) :
 Calls Tryz.prog 43 #[conV day A n c pa le d p z, .string line] w (RetC A c l (day, l, pa, le) d p z (none) w) := by
 have HSP := Lib.hid (show ∀ w : World, Calls Tryz.prog 30 #[.string line, .int .u8 32] w (RetSlice w 9 1 W.length (strsV W)) from fun w => by rw [← hW]; exact l1Split_any line 32 w (by omega))
 obtain ⟨hvl, hvp⟩ := numsO_some _ _ hvs
 have hWl : 1 ≤ W.length := by have := (List.getElem?_eq_some_iff.1 hx0).1; omega
 have hW8 : W.length ≤ 16001 := by
  have h1 := splitL_len 32 (bl line)
  have h2 := List.count_le_length (a := (32 : UInt8)) (l := bl line)
  rw [bl_size] at h2
  rw [hW] at h1
  omega
 have hmem : ∀ x ∈ W, (str x).size ≤ 16000 := fun x hx => by
  have h1 := splitL_mem 32 (bl line) x (by rw [hW]; exact hx)
  rw [bl_size] at h1
  have h2 : (str x).size = x.length := by rw [← bl_size, bl_str]
  omega
 have hdl : (W.drop 1).length = W.length - 1 := by simp
 obtain ⟨m, hm⟩ : ∃ m, W.length = m + 1 := ⟨W.length - 1, by omega⟩
 have hvm : vs.length = m := by omega
 have HVM := Lib.hid hvm
 clear hvm hvl
 have HV := Lib.hid hvp
 have HM := Lib.hid hm
 have HMEM := Lib.hid hmem
 have HX0 := Lib.hid hx0
 have HWD := Lib.hid hwd
 have H := Lib.hid h
 have HLN := Lib.hid (rows_len h)
 have HS := Lib.hid hs
 have hm16 : m ≤ 16000 := by omega
 rw [hm] at HSP
 obtain ⟨i0, hi, hz0, hz1, hz2⟩ := info_parts info_int
 have HVS := Lib.hid hvs2
 clear hvs2
 clear h hs hW hx0 hwd hvs hvp hWl hW8 hmem hdl hm
 go_enter Tryz.func43, Tryz.ntmps43
 go_wp2_with fail
 refine (HSP.out _).mono ?_
 rintro e w1 ⟨Aw, cw, rfl, how, hb1⟩
 obtain ⟨g, cap, hv, hgb, hglt⟩ := how.form (by omega)
 injection hv with hv _ hcap
 subst hv hcap
 have BX : Hid (Blk w1 w.heap.size 34 #[.int .i64 day, .slice A n c, .int .i64 pa, .int .i64 le, .string d, .string p, .int .i64 z]) := Lib.hid ((((Blk.new w _ _).ext (ext_alloc (ext_refl _) _))).ext hb1)
 have BR : Hid (Blk w1 (w.heap.size + 1) 34 #[.int .i64 0, .slice none 0 0, .int .i64 0, .int .i64 0, .string ⟨#[]⟩, .string ⟨#[]⟩, .int .i64 0]) := Lib.hid (by
  have := (Blk.new (w.alloc (.cells #[.int .i64 day, .slice A n c, .int .i64 pa, .int .i64 le, .string d, .string p, .int .i64 z] 34)) #[.int .i64 0, .slice none 0 0, .int .i64 0, .int .i64 0, .string ⟨#[]⟩, .string ⟨#[]⟩, .int .i64 0] 34).ext hb1
  simpa using this)
 have hw1 := Lib.hid (ext_trans (ext_alloc (ext_alloc (ext_refl w) _) _) hb1)
 have s1 : w.heap.size + 1 < w1.heap.size := by have := hb1.size; simp at this; omega
 have hgs : w.heap.size + 1 < g := by simp at hgb; omega
 have HC0 : Hid (∀ (k : Nat) (x : List UInt8), W[k]? = some x → w1.cell? ⟨g, k, none⟩ = some (.string (str x))) := Lib.hid (fun k x hx => by
  rw [how.cellAt k (by have := (List.getElem?_eq_some_iff.1 hx).1; have := HM.out; omega)]
  simp [strsV, hx])
 clear hb1 how hgb
 go_wp2_with fail
 go_loopw [7, 8] (fun v i wr => ∃ j : Nat, 1 ≤ j ∧ j ≤ m + 1 ∧ i = .int .i64 j ∧ Hid (wr.ownsRow w1.heap.size 3 1 v (j - 1) (intsV (vs.take (j - 1)))) ∧ Hid (Below w1.heap.size w1 wr)) (fun _ i _ => m + 1 - (intOf i).toNat)
 case atStart => exact ⟨1, Nat.le_refl _, by omega, rfl, Lib.hid (own_lit0 w1 3 1), Lib.hid (ext_alloc (ext_refl _) _)⟩
 case round =>
  obtain ⟨j, hj1, hj, rfl, hown, HB⟩ := hrel
  by_cases hlt : j < m + 1
  · obtain ⟨x, hx⟩ := list_split (l := W) (k := j) (by rw [HM.out]; omega)
    obtain ⟨v, hv, hp⟩ := HV.out (j - 1) x (by rw [List.getElem?_drop, show 1 + (j - 1) = j from by omega]; exact hx)
    have hxs := HMEM.out x (List.mem_of_getElem? hx)
    have HPI := Lib.hid (fun (w : World) => specParseInt_any (str x) w (by omega))
    rw [hp] at HPI
    have c0 := ext_cell HB.out (HC0.out j x hx)
    have hgw : g < wr.heap.size := Nat.lt_of_lt_of_le hglt HB.out.size
    have hnew : Hid (intsV (vs.take (j - 1 + 1)) = intsV (vs.take (j - 1)) ++ [.int .i64 v]) := Lib.hid (by rw [List.take_add_one, hv]; simp [intsV])
    have m1 : j - 1 + 1 ≤ maxLen := by unfold maxLen; omega
    have m2 : (j - 1 + 1) * 8 ≤ 140737488355328 := by omega
    have hlt' : (j : Int) < ((m + 1 : Nat) : Int) := by omega
    have hlt2 : (j : Int) < (m : Int) + 1 := by omega
    clear hx hv hp
    go_wp2_with fail
    refine (HPI.out _).mono ?_
    rintro e w5 ⟨rfl, hb⟩
    have hown5 := Lib.hid (own_ext hown.out hb)
    have HB5 := Lib.hid (ext_trans HB.out hb)
    have hSome : (some v).isSome = true := rfl
    clear hb c0
    go_wp2_with (at_builtin; refine wpList_append_own _ rfl (.tmp 31) (.tmp 33) 53 rfl w1.heap.size 3 i0 _ 1 8 Tryz.underlying53 hi hz0 hz1 hz2 rfl (by decide) _ _ _ rfl (hown5.out.alloc _) _ 1 1 [.int .i64 v] rfl rfl (cell_one_at _ _ _ (by simp)) (by simp [Value.oneCell']) m1 m2 (by have := HB5.out.size; simp; omega) ?_; intro v' w2 hown2 hgrow _)
    go_roundw
    case rel =>
     refine ⟨j + 1, by omega, by omega, by go_num, ?_, Lib.hid (below_grown hown5.out (ext_alloc HB5.out _) hgrow)⟩
     refine Lib.hid ?_
     rw [show j + 1 - 1 = j - 1 + 1 from by omega, hnew.out]
     exact hown2
    case measure => simp [intOf]; omega
  · obtain rfl : j = m + 1 := by omega
    have hown1 := hown.out
    rw [Nat.add_sub_cancel, List.take_of_length_le (by rw [HVM.out]; exact Nat.le_refl _)] at hown1
    obtain ⟨An, cn, rfl⟩ := own_shape hown1
    have BXr := Lib.hid (BX.out.ext HB.out)
    have BRr := Lib.hid (BR.out.ext HB.out)
    have hwr := Lib.hid (ext_trans hw1.out HB.out)
    have hgw : g < wr.heap.size := Nat.lt_of_lt_of_le hglt HB.out.size
    have sX := BXr.out.lt
    have sR := BRr.out.lt
    have cw0 := ext_cell HB.out (HC0.out 0 x0 HX0.out)
    rw [HWD.out] at cw0
    obtain ⟨x0, x1, x2, x3, x4, x5, x6⟩ := BXr.out.q7
    obtain ⟨r0, r1, r2, r3, r4, r5, r6⟩ := BRr.out.q7
    obtain ⟨fr0, fr1, fr2, fr3, fr4, fr5, fr6⟩ := BRr.out.z7
    clear hown hown1 HSP HV HMEM HC0 BX BR hw1
    have hm0 : ((m : Int) == 0) = false := beq_eq_false_iff_ne.2 (by have := HVS.out; have := HVM.out; omega)
    have hm1 : ((m : Int) == 1) = false := beq_eq_false_iff_ne.2 (by have := HVS.out; have := HVM.out; omega)
    have hm2 : ((m : Int) == 2) = false := beq_eq_false_iff_ne.2 (by have := HVS.out; have := HVM.out; omega)
    go_wp2
    refine bodyPost_ret (v := .tuple #[conV day A n c pa le d p z, .string ⟨#[63]⟩]) (by simp [results, Tryz.results43, go_sem, *]) rfl ?_
    refine ⟨A, n, c, day, pa, le, l, rfl, rfl, HLN.out.symm, .inr ⟨rfl, rfl, rfl⟩, ?_⟩
    iterate 7 refine ext_set ?_ (by show w.heap.size ≤ w.heap.size + 1; omega) _
    exact hwr.out
set_option maxRecDepth 100000 in
set_option maxHeartbeats 4000000 in
theorem l28Run_0 (day pa le : Int) (d p : ByteArray) (z : Int) (A : Option Addr) (n c : Nat) (l : List R5) (w : World) (hn : n ≤ 8) (hnc : n ≤ c) (hA : SlOk A n c) (h : Reads w w.heap.size 5 A n (rowsV l)) (hs : schB day l pa le = true) (line : ByteArray) (hline : line.size ≤ 16000)
 (W : List (List UInt8)) (x0 : List UInt8) (word : ByteArray) (vs : List Int) (hW : splitL 32 (bl line) = W) (hx0 : W[0]? = some x0) (hwd : str x0 = word) (hvs : numsO (W.drop 1) = some vs) (hvs2 : vs = []) :
 Calls Tryz.prog 43 #[conV day A n c pa le d p z, .string line] w (RetC A c l (day, l, pa, le) d p z (rep0 (day, l, pa, le) line) w) := by
 have HF := Lib.hid (fun (w : World) h => l28Word_any day pa le A n c l line w hn h hs)
 obtain ⟨o, ho⟩ : ∃ o, rep0 (day, l, pa, le) line = o := ⟨_, rfl⟩
 rw [ho] at HF ⊢
 have hq0 : afQ (day, l, pa, le) o = (day, l, pa, le) := by rw [← ho]; exact rep0_q _ _
 obtain ⟨q, hq⟩ : ∃ q, afQ (day, l, pa, le) o = q := ⟨_, rfl⟩
 obtain ⟨tx, htx⟩ : ∃ tx, afT o = tx := ⟨_, rfl⟩
 unfold RetC
 rw [hq0] at hq
 subst hq
 rw [hq0, htx]
 rw [htx] at HF
 clear hq0 htx ho
 have HSP := Lib.hid (show ∀ w : World, Calls Tryz.prog 30 #[.string line, .int .u8 32] w (RetSlice w 9 1 W.length (strsV W)) from fun w => by rw [← hW]; exact l1Split_any line 32 w (by omega))
 obtain ⟨hvl, hvp⟩ := numsO_some _ _ hvs
 have hWl : 1 ≤ W.length := by have := (List.getElem?_eq_some_iff.1 hx0).1; omega
 have hW8 : W.length ≤ 16001 := by
  have h1 := splitL_len 32 (bl line)
  have h2 := List.count_le_length (a := (32 : UInt8)) (l := bl line)
  rw [bl_size] at h2
  rw [hW] at h1
  omega
 have hmem : ∀ x ∈ W, (str x).size ≤ 16000 := fun x hx => by
  have h1 := splitL_mem 32 (bl line) x (by rw [hW]; exact hx)
  rw [bl_size] at h1
  have h2 : (str x).size = x.length := by rw [← bl_size, bl_str]
  omega
 have hdl : (W.drop 1).length = W.length - 1 := by simp
 obtain ⟨m, hm⟩ : ∃ m, W.length = m + 1 := ⟨W.length - 1, by omega⟩
 have hvm : vs.length = m := by omega
 have HVM := Lib.hid hvm
 clear hvm hvl
 have HV := Lib.hid hvp
 have HM := Lib.hid hm
 have HMEM := Lib.hid hmem
 have HX0 := Lib.hid hx0
 have HWD := Lib.hid hwd
 have H := Lib.hid h
 have HLN := Lib.hid (rows_len h)
 have HS := Lib.hid hs
 have hm16 : m ≤ 16000 := by omega
 rw [hm] at HSP
 obtain ⟨i0, hi, hz0, hz1, hz2⟩ := info_parts info_int
 have HVS := Lib.hid hvs2
 clear hvs2
 clear h hs hW hx0 hwd hvs hvp hWl hW8 hmem hdl hm
 go_enter Tryz.func43, Tryz.ntmps43
 go_wp2_with fail
 refine (HSP.out _).mono ?_
 rintro e w1 ⟨Aw, cw, rfl, how, hb1⟩
 obtain ⟨g, cap, hv, hgb, hglt⟩ := how.form (by omega)
 injection hv with hv _ hcap
 subst hv hcap
 have BX : Hid (Blk w1 w.heap.size 34 #[.int .i64 day, .slice A n c, .int .i64 pa, .int .i64 le, .string d, .string p, .int .i64 z]) := Lib.hid ((((Blk.new w _ _).ext (ext_alloc (ext_refl _) _))).ext hb1)
 have BR : Hid (Blk w1 (w.heap.size + 1) 34 #[.int .i64 0, .slice none 0 0, .int .i64 0, .int .i64 0, .string ⟨#[]⟩, .string ⟨#[]⟩, .int .i64 0]) := Lib.hid (by
  have := (Blk.new (w.alloc (.cells #[.int .i64 day, .slice A n c, .int .i64 pa, .int .i64 le, .string d, .string p, .int .i64 z] 34)) #[.int .i64 0, .slice none 0 0, .int .i64 0, .int .i64 0, .string ⟨#[]⟩, .string ⟨#[]⟩, .int .i64 0] 34).ext hb1
  simpa using this)
 have hw1 := Lib.hid (ext_trans (ext_alloc (ext_alloc (ext_refl w) _) _) hb1)
 have s1 : w.heap.size + 1 < w1.heap.size := by have := hb1.size; simp at this; omega
 have hgs : w.heap.size + 1 < g := by simp at hgb; omega
 have HC0 : Hid (∀ (k : Nat) (x : List UInt8), W[k]? = some x → w1.cell? ⟨g, k, none⟩ = some (.string (str x))) := Lib.hid (fun k x hx => by
  rw [how.cellAt k (by have := (List.getElem?_eq_some_iff.1 hx).1; have := HM.out; omega)]
  simp [strsV, hx])
 clear hb1 how hgb
 go_wp2_with fail
 go_loopw [7, 8] (fun v i wr => ∃ j : Nat, 1 ≤ j ∧ j ≤ m + 1 ∧ i = .int .i64 j ∧ Hid (wr.ownsRow w1.heap.size 3 1 v (j - 1) (intsV (vs.take (j - 1)))) ∧ Hid (Below w1.heap.size w1 wr)) (fun _ i _ => m + 1 - (intOf i).toNat)
 case atStart => exact ⟨1, Nat.le_refl _, by omega, rfl, Lib.hid (own_lit0 w1 3 1), Lib.hid (ext_alloc (ext_refl _) _)⟩
 case round =>
  obtain ⟨j, hj1, hj, rfl, hown, HB⟩ := hrel
  by_cases hlt : j < m + 1
  · obtain ⟨x, hx⟩ := list_split (l := W) (k := j) (by rw [HM.out]; omega)
    obtain ⟨v, hv, hp⟩ := HV.out (j - 1) x (by rw [List.getElem?_drop, show 1 + (j - 1) = j from by omega]; exact hx)
    have hxs := HMEM.out x (List.mem_of_getElem? hx)
    have HPI := Lib.hid (fun (w : World) => specParseInt_any (str x) w (by omega))
    rw [hp] at HPI
    have c0 := ext_cell HB.out (HC0.out j x hx)
    have hgw : g < wr.heap.size := Nat.lt_of_lt_of_le hglt HB.out.size
    have hnew : Hid (intsV (vs.take (j - 1 + 1)) = intsV (vs.take (j - 1)) ++ [.int .i64 v]) := Lib.hid (by rw [List.take_add_one, hv]; simp [intsV])
    have m1 : j - 1 + 1 ≤ maxLen := by unfold maxLen; omega
    have m2 : (j - 1 + 1) * 8 ≤ 140737488355328 := by omega
    have hlt' : (j : Int) < ((m + 1 : Nat) : Int) := by omega
    have hlt2 : (j : Int) < (m : Int) + 1 := by omega
    clear hx hv hp
    go_wp2_with fail
    refine (HPI.out _).mono ?_
    rintro e w5 ⟨rfl, hb⟩
    have hown5 := Lib.hid (own_ext hown.out hb)
    have HB5 := Lib.hid (ext_trans HB.out hb)
    have hSome : (some v).isSome = true := rfl
    clear hb c0
    go_wp2_with (at_builtin; refine wpList_append_own _ rfl (.tmp 31) (.tmp 33) 53 rfl w1.heap.size 3 i0 _ 1 8 Tryz.underlying53 hi hz0 hz1 hz2 rfl (by decide) _ _ _ rfl (hown5.out.alloc _) _ 1 1 [.int .i64 v] rfl rfl (cell_one_at _ _ _ (by simp)) (by simp [Value.oneCell']) m1 m2 (by have := HB5.out.size; simp; omega) ?_; intro v' w2 hown2 hgrow _)
    go_roundw
    case rel =>
     refine ⟨j + 1, by omega, by omega, by go_num, ?_, Lib.hid (below_grown hown5.out (ext_alloc HB5.out _) hgrow)⟩
     refine Lib.hid ?_
     rw [show j + 1 - 1 = j - 1 + 1 from by omega, hnew.out]
     exact hown2
    case measure => simp [intOf]; omega
  · obtain rfl : j = m + 1 := by omega
    have hown1 := hown.out
    rw [Nat.add_sub_cancel, List.take_of_length_le (by rw [HVM.out]; exact Nat.le_refl _)] at hown1
    obtain ⟨An, cn, rfl⟩ := own_shape hown1
    have hvs2 := HVS.out
    subst hvs2
    clear HVS
    obtain rfl : m = 0 := HVM.out.symm
    have BXr := Lib.hid (BX.out.ext HB.out)
    have BRr := Lib.hid (BR.out.ext HB.out)
    have hwr := Lib.hid (ext_trans hw1.out HB.out)
    have hgw : g < wr.heap.size := Nat.lt_of_lt_of_le hglt HB.out.size
    have sX := BXr.out.lt
    have sR := BRr.out.lt
    have cw0 := ext_cell HB.out (HC0.out 0 x0 HX0.out)
    rw [HWD.out] at cw0
    obtain ⟨x0, x1, x2, x3, x4, x5, x6⟩ := BXr.out.q7
    obtain ⟨r0, r1, r2, r3, r4, r5, r6⟩ := BRr.out.q7
    obtain ⟨fr0, fr1, fr2, fr3, fr4, fr5, fr6⟩ := BRr.out.z7
    clear hown hown1 HSP HV HMEM HC0 BX BR hw1
    go_wp2_with fail
    go_region_held3 (fun w' => w'.cell? ⟨w.heap.size, 0, none⟩ = some (.int .i64 day) ∧ w'.cell? ⟨w.heap.size, 1, none⟩ = some (.slice A n c) ∧ w'.cell? ⟨w.heap.size, 2, none⟩ = some (.int .i64 pa) ∧ w'.cell? ⟨w.heap.size, 3, none⟩ = some (.int .i64 le) ∧ w'.cell? ⟨w.heap.size, 4, none⟩ = some (.string d) ∧ w'.cell? ⟨w.heap.size, 5, none⟩ = some (.string p) ∧ w'.cell? ⟨w.heap.size, 6, none⟩ = some (.int .i64 z)) (first | (go_split_ands; ((repeat' refine And.intro ?_ ?_) <;> with_reducible (repeat (first | assumption | refine cell_drew ?_ | refine cell_old ?_ _ | refine ext_cell hb8 ?_ | refine cell_set_far (by first | (show w.heap.size + 1 ≠ w.heap.size; omega)) ?_))))) (first | (go_at_call 74; refine (HF.out _ (by refine Reads.more (B := w.heap.size) (Reads.ext H.out (by repeat (first | (with_reducible exact hwr.out) | (with_reducible refine ext_drew ?_) | (with_reducible refine ext_set ?_ (by show w.heap.size ≤ w.heap.size + 1; omega) _))) (Nat.le_refl _)) (by (try simp); omega))).mono ?_; rintro e w8 ⟨rfl, hb8⟩; have HB8 := Lib.hid hb8; obtain ⟨hc8, hf8⟩ := bcell hb8; have zs8 := hb8.size; have zR8 : w.heap.size + 1 < w8.heap.size := (by (try simp at zs8); omega); (try (have R8 := (BRr).out.ext (ext_trans (ext_drew (ext_refl _)) hb8); obtain ⟨z80, z81, z82, z83, z84, z85, z86⟩ := R8.q7; obtain ⟨fz80, fz81, fz82, fz83, fz84, fz85, fz86⟩ := R8.z7; clear R8)); (try (have R8 := (BRr).out.ext (ext_trans (ext_alloc (ext_drew (ext_refl _)) _) hb8); obtain ⟨z80, z81, z82, z83, z84, z85, z86⟩ := R8.q7; obtain ⟨fz80, fz81, fz82, fz83, fz84, fz85, fz86⟩ := R8.z7; clear R8)); (try (have R8 := (BRr).out.ext (ext_trans (ext_drew (ext_alloc (ext_refl _) _)) hb8); obtain ⟨z80, z81, z82, z83, z84, z85, z86⟩ := R8.q7; obtain ⟨fz80, fz81, fz82, fz83, fz84, fz85, fz86⟩ := R8.z7; clear R8))))

    all_goals go_wp2
    all_goals
     refine bodyPost_ret (v := .tuple #[conV day A n c pa le d p z, .string (tx)]) (by simp [results, Tryz.results43, go_sem, *]) rfl ?_
     exact ⟨A, n, c, day, pa, le, l, rfl, rfl, HLN.out.symm, .inr ⟨rfl, rfl, rfl⟩, (by repeat (first | (with_reducible exact hwr.out) | (with_reducible refine ext_drew ?_) | (with_reducible refine ext_alloc ?_ _) | (with_reducible refine ext_set ?_ (by show w.heap.size ≤ w.heap.size + 1; omega) _) | refine ext_trans ?_ HB8.out))⟩
set_option maxRecDepth 100000 in
set_option maxHeartbeats 4000000 in
theorem l28Run_1 (day pa le : Int) (d p : ByteArray) (z : Int) (A : Option Addr) (n c : Nat) (l : List R5) (w : World) (hn : n ≤ 8) (hnc : n ≤ c) (hA : SlOk A n c) (h : Reads w w.heap.size 5 A n (rowsV l)) (hs : schB day l pa le = true) (line : ByteArray) (hline : line.size ≤ 16000)
 (W : List (List UInt8)) (x0 : List UInt8) (word : ByteArray) (vs : List Int) (hW : splitL 32 (bl line) = W) (hx0 : W[0]? = some x0) (hwd : str x0 = word) (hvs : numsO (W.drop 1) = some vs) (i1 : Int) (hvs2 : vs = [i1]) :
 Calls Tryz.prog 43 #[conV day A n c pa le d p z, .string line] w (RetC A c l (day, l, pa, le) d p z (rep1 (day, l, pa, le) word i1) w) := by
 have HF := Lib.hid (fun (w : World) h => l28One_any day pa le d p z A n c l word i1 w hn hnc hA h hs)
 obtain ⟨o, ho⟩ : ∃ o, rep1 (day, l, pa, le) word i1 = o := ⟨_, rfl⟩
 rw [ho] at HF ⊢
 clear ho
 obtain ⟨q, hq⟩ : ∃ q, afQ (day, l, pa, le) o = q := ⟨_, rfl⟩
 obtain ⟨tx, htx⟩ : ∃ tx, afT o = tx := ⟨_, rfl⟩
 unfold RetC at HF ⊢
 rw [hq, htx] at HF ⊢
 clear hq htx
 have HSP := Lib.hid (show ∀ w : World, Calls Tryz.prog 30 #[.string line, .int .u8 32] w (RetSlice w 9 1 W.length (strsV W)) from fun w => by rw [← hW]; exact l1Split_any line 32 w (by omega))
 obtain ⟨hvl, hvp⟩ := numsO_some _ _ hvs
 have hWl : 1 ≤ W.length := by have := (List.getElem?_eq_some_iff.1 hx0).1; omega
 have hW8 : W.length ≤ 16001 := by
  have h1 := splitL_len 32 (bl line)
  have h2 := List.count_le_length (a := (32 : UInt8)) (l := bl line)
  rw [bl_size] at h2
  rw [hW] at h1
  omega
 have hmem : ∀ x ∈ W, (str x).size ≤ 16000 := fun x hx => by
  have h1 := splitL_mem 32 (bl line) x (by rw [hW]; exact hx)
  rw [bl_size] at h1
  have h2 : (str x).size = x.length := by rw [← bl_size, bl_str]
  omega
 have hdl : (W.drop 1).length = W.length - 1 := by simp
 obtain ⟨m, hm⟩ : ∃ m, W.length = m + 1 := ⟨W.length - 1, by omega⟩
 have hvm : vs.length = m := by omega
 have HVM := Lib.hid hvm
 clear hvm hvl
 have HV := Lib.hid hvp
 have HM := Lib.hid hm
 have HMEM := Lib.hid hmem
 have HX0 := Lib.hid hx0
 have HWD := Lib.hid hwd
 have H := Lib.hid h
 have HLN := Lib.hid (rows_len h)
 have HS := Lib.hid hs
 have hm16 : m ≤ 16000 := by omega
 rw [hm] at HSP
 obtain ⟨i0, hi, hz0, hz1, hz2⟩ := info_parts info_int
 have HVS := Lib.hid hvs2
 clear hvs2
 clear h hs hW hx0 hwd hvs hvp hWl hW8 hmem hdl hm
 go_enter Tryz.func43, Tryz.ntmps43
 go_wp2_with fail
 refine (HSP.out _).mono ?_
 rintro e w1 ⟨Aw, cw, rfl, how, hb1⟩
 obtain ⟨g, cap, hv, hgb, hglt⟩ := how.form (by omega)
 injection hv with hv _ hcap
 subst hv hcap
 have BX : Hid (Blk w1 w.heap.size 34 #[.int .i64 day, .slice A n c, .int .i64 pa, .int .i64 le, .string d, .string p, .int .i64 z]) := Lib.hid ((((Blk.new w _ _).ext (ext_alloc (ext_refl _) _))).ext hb1)
 have BR : Hid (Blk w1 (w.heap.size + 1) 34 #[.int .i64 0, .slice none 0 0, .int .i64 0, .int .i64 0, .string ⟨#[]⟩, .string ⟨#[]⟩, .int .i64 0]) := Lib.hid (by
  have := (Blk.new (w.alloc (.cells #[.int .i64 day, .slice A n c, .int .i64 pa, .int .i64 le, .string d, .string p, .int .i64 z] 34)) #[.int .i64 0, .slice none 0 0, .int .i64 0, .int .i64 0, .string ⟨#[]⟩, .string ⟨#[]⟩, .int .i64 0] 34).ext hb1
  simpa using this)
 have hw1 := Lib.hid (ext_trans (ext_alloc (ext_alloc (ext_refl w) _) _) hb1)
 have s1 : w.heap.size + 1 < w1.heap.size := by have := hb1.size; simp at this; omega
 have hgs : w.heap.size + 1 < g := by simp at hgb; omega
 have HC0 : Hid (∀ (k : Nat) (x : List UInt8), W[k]? = some x → w1.cell? ⟨g, k, none⟩ = some (.string (str x))) := Lib.hid (fun k x hx => by
  rw [how.cellAt k (by have := (List.getElem?_eq_some_iff.1 hx).1; have := HM.out; omega)]
  simp [strsV, hx])
 clear hb1 how hgb
 go_wp2_with fail
 go_loopw [7, 8] (fun v i wr => ∃ j : Nat, 1 ≤ j ∧ j ≤ m + 1 ∧ i = .int .i64 j ∧ Hid (wr.ownsRow w1.heap.size 3 1 v (j - 1) (intsV (vs.take (j - 1)))) ∧ Hid (Below w1.heap.size w1 wr)) (fun _ i _ => m + 1 - (intOf i).toNat)
 case atStart => exact ⟨1, Nat.le_refl _, by omega, rfl, Lib.hid (own_lit0 w1 3 1), Lib.hid (ext_alloc (ext_refl _) _)⟩
 case round =>
  obtain ⟨j, hj1, hj, rfl, hown, HB⟩ := hrel
  by_cases hlt : j < m + 1
  · obtain ⟨x, hx⟩ := list_split (l := W) (k := j) (by rw [HM.out]; omega)
    obtain ⟨v, hv, hp⟩ := HV.out (j - 1) x (by rw [List.getElem?_drop, show 1 + (j - 1) = j from by omega]; exact hx)
    have hxs := HMEM.out x (List.mem_of_getElem? hx)
    have HPI := Lib.hid (fun (w : World) => specParseInt_any (str x) w (by omega))
    rw [hp] at HPI
    have c0 := ext_cell HB.out (HC0.out j x hx)
    have hgw : g < wr.heap.size := Nat.lt_of_lt_of_le hglt HB.out.size
    have hnew : Hid (intsV (vs.take (j - 1 + 1)) = intsV (vs.take (j - 1)) ++ [.int .i64 v]) := Lib.hid (by rw [List.take_add_one, hv]; simp [intsV])
    have m1 : j - 1 + 1 ≤ maxLen := by unfold maxLen; omega
    have m2 : (j - 1 + 1) * 8 ≤ 140737488355328 := by omega
    have hlt' : (j : Int) < ((m + 1 : Nat) : Int) := by omega
    have hlt2 : (j : Int) < (m : Int) + 1 := by omega
    clear hx hv hp
    go_wp2_with fail
    refine (HPI.out _).mono ?_
    rintro e w5 ⟨rfl, hb⟩
    have hown5 := Lib.hid (own_ext hown.out hb)
    have HB5 := Lib.hid (ext_trans HB.out hb)
    have hSome : (some v).isSome = true := rfl
    clear hb c0
    go_wp2_with (at_builtin; refine wpList_append_own _ rfl (.tmp 31) (.tmp 33) 53 rfl w1.heap.size 3 i0 _ 1 8 Tryz.underlying53 hi hz0 hz1 hz2 rfl (by decide) _ _ _ rfl (hown5.out.alloc _) _ 1 1 [.int .i64 v] rfl rfl (cell_one_at _ _ _ (by simp)) (by simp [Value.oneCell']) m1 m2 (by have := HB5.out.size; simp; omega) ?_; intro v' w2 hown2 hgrow _)
    go_roundw
    case rel =>
     refine ⟨j + 1, by omega, by omega, by go_num, ?_, Lib.hid (below_grown hown5.out (ext_alloc HB5.out _) hgrow)⟩
     refine Lib.hid ?_
     rw [show j + 1 - 1 = j - 1 + 1 from by omega, hnew.out]
     exact hown2
    case measure => simp [intOf]; omega
  · obtain rfl : j = m + 1 := by omega
    have hown1 := hown.out
    rw [Nat.add_sub_cancel, List.take_of_length_le (by rw [HVM.out]; exact Nat.le_refl _)] at hown1
    obtain ⟨An, cn, rfl⟩ := own_shape hown1
    have hvs2 := HVS.out
    subst hvs2
    clear HVS
    obtain rfl : m = 1 := HVM.out.symm
    have BXr := Lib.hid (BX.out.ext HB.out)
    have BRr := Lib.hid (BR.out.ext HB.out)
    have hwr := Lib.hid (ext_trans hw1.out HB.out)
    have hgw : g < wr.heap.size := Nat.lt_of_lt_of_le hglt HB.out.size
    have sX := BXr.out.lt
    have sR := BRr.out.lt
    have cw0 := ext_cell HB.out (HC0.out 0 x0 HX0.out)
    rw [HWD.out] at cw0
    obtain ⟨x0, x1, x2, x3, x4, x5, x6⟩ := BXr.out.q7
    obtain ⟨r0, r1, r2, r3, r4, r5, r6⟩ := BRr.out.q7
    obtain ⟨fr0, fr1, fr2, fr3, fr4, fr5, fr6⟩ := BRr.out.z7
    obtain ⟨gn, capn, hvn, hgnb, hgnlt⟩ := hown1.form (by omega)
    injection hvn with hvn _ hcapn
    subst hvn hcapn
    have n0 : wr.cell? ⟨gn, 0, none⟩ = some (.int .i64 i1) := by rw [hown1.cellAt 0 (by omega)]; rfl
    clear hown hown1 HSP HV HMEM HC0 BX BR hw1
    go_wp2_with fail
    go_region_held3 (fun w' => w'.cell? ⟨w.heap.size, 0, none⟩ = some (.int .i64 day) ∧ w'.cell? ⟨w.heap.size, 1, none⟩ = some (.slice A n c) ∧ w'.cell? ⟨w.heap.size, 2, none⟩ = some (.int .i64 pa) ∧ w'.cell? ⟨w.heap.size, 3, none⟩ = some (.int .i64 le) ∧ w'.cell? ⟨w.heap.size, 4, none⟩ = some (.string d) ∧ w'.cell? ⟨w.heap.size, 5, none⟩ = some (.string p) ∧ w'.cell? ⟨w.heap.size, 6, none⟩ = some (.int .i64 z) ∧ w'.cell? ⟨g, 0, none⟩ = some (.string word) ∧ w'.cell? ⟨gn, 0, none⟩ = some (.int .i64 i1)) (first | (go_split_ands; ((repeat' refine And.intro ?_ ?_) <;> with_reducible (repeat (first | assumption | refine cell_drew ?_ | refine cell_old ?_ _ | refine ext_cell hb8 ?_ | refine cell_set_far (by first | (show w.heap.size + 1 ≠ w.heap.size; omega) | (show w.heap.size + 1 ≠ g; omega) | (show w.heap.size + 1 ≠ gn; omega)) ?_))))) (first | (go_at_call 75; refine (HF.out _ (by refine Reads.more (B := w.heap.size) (Reads.ext H.out (by repeat (first | (with_reducible exact hwr.out) | (with_reducible refine ext_drew ?_) | (with_reducible refine ext_set ?_ (by show w.heap.size ≤ w.heap.size + 1; omega) _))) (Nat.le_refl _)) (by (try simp); omega))).mono ?_; rintro e w8 ⟨A8, N8, c8, D8, P8, Q8, L8, rfl, hq8, rfl, hsl8, hb8⟩; have HQ8 := Lib.hid hq8; clear hq8; have HSL8 := Lib.hid hsl8; clear hsl8; have HB8 := Lib.hid hb8; have R8x := Lib.hid (BRr.out.ext (ext_trans (ext_drew (ext_refl _)) hb8)); have zs8 := hb8.size; have zR8 : w.heap.size + 1 < w8.heap.size := (by (try simp at zs8); omega); (try (have R8 := (BRr).out.ext (ext_trans (ext_drew (ext_refl _)) hb8); obtain ⟨z80, z81, z82, z83, z84, z85, z86⟩ := R8.q7; obtain ⟨fz80, fz81, fz82, fz83, fz84, fz85, fz86⟩ := R8.z7; clear R8)); (try (have R8 := (BRr).out.ext (ext_trans (ext_alloc (ext_drew (ext_refl _)) _) hb8); obtain ⟨z80, z81, z82, z83, z84, z85, z86⟩ := R8.q7; obtain ⟨fz80, fz81, fz82, fz83, fz84, fz85, fz86⟩ := R8.z7; clear R8)); (try (have R8 := (BRr).out.ext (ext_trans (ext_drew (ext_alloc (ext_refl _) _)) hb8); obtain ⟨z80, z81, z82, z83, z84, z85, z86⟩ := R8.q7; obtain ⟨fz80, fz81, fz82, fz83, fz84, fz85, fz86⟩ := R8.z7; clear R8))))

    go_wp2
    refine bodyPost_ret (v := .tuple #[conV D8 A8 L8.length c8 P8 Q8 d p z, .string tx]) (by simp [results, Tryz.results43, go_sem, *]) rfl ?_
    refine ⟨A8, L8.length, c8, D8, P8, Q8, L8, rfl, HQ8.out, rfl, ?_, ?_⟩
    · rcases HSL8.out with ho | hx
      · have hne := own_nb ho R8x.out (by decide)
        refine .inl ?_
        iterate 7 refine own_set_nb ?_ hne _
        exact own_base ho hwr.out.size
      · exact .inr hx
    · iterate 7 refine ext_set ?_ (by show w.heap.size ≤ w.heap.size + 1; omega) _
      exact ext_trans (ext_drew hwr.out) HB8.out
set_option maxRecDepth 100000 in
set_option maxHeartbeats 4000000 in
theorem l28Run_2 (day pa le : Int) (d p : ByteArray) (z : Int) (A : Option Addr) (n c : Nat) (l : List R5) (w : World) (hn : n ≤ 8) (hnc : n ≤ c) (hA : SlOk A n c) (h : Reads w w.heap.size 5 A n (rowsV l)) (hs : schB day l pa le = true) (line : ByteArray) (hline : line.size ≤ 16000)
 (W : List (List UInt8)) (x0 : List UInt8) (word : ByteArray) (vs : List Int) (hW : splitL 32 (bl line) = W) (hx0 : W[0]? = some x0) (hwd : str x0 = word) (hvs : numsO (W.drop 1) = some vs) (i1 i2 : Int) (hvs2 : vs = [i1, i2]) :
 Calls Tryz.prog 43 #[conV day A n c pa le d p z, .string line] w (RetC A c l (day, l, pa, le) d p z (rep2 (day, l, pa, le) word i1 i2) w) := by
 have HF := Lib.hid (fun (w : World) h => l28Two_any day pa le d p z A n c l word i1 i2 w hn hnc hA h hs)
 obtain ⟨o, ho⟩ : ∃ o, rep2 (day, l, pa, le) word i1 i2 = o := ⟨_, rfl⟩
 rw [ho] at HF ⊢
 clear ho
 obtain ⟨q, hq⟩ : ∃ q, afQ (day, l, pa, le) o = q := ⟨_, rfl⟩
 obtain ⟨tx, htx⟩ : ∃ tx, afT o = tx := ⟨_, rfl⟩
 unfold RetC at HF ⊢
 rw [hq, htx] at HF ⊢
 clear hq htx
 have HSP := Lib.hid (show ∀ w : World, Calls Tryz.prog 30 #[.string line, .int .u8 32] w (RetSlice w 9 1 W.length (strsV W)) from fun w => by rw [← hW]; exact l1Split_any line 32 w (by omega))
 obtain ⟨hvl, hvp⟩ := numsO_some _ _ hvs
 have hWl : 1 ≤ W.length := by have := (List.getElem?_eq_some_iff.1 hx0).1; omega
 have hW8 : W.length ≤ 16001 := by
  have h1 := splitL_len 32 (bl line)
  have h2 := List.count_le_length (a := (32 : UInt8)) (l := bl line)
  rw [bl_size] at h2
  rw [hW] at h1
  omega
 have hmem : ∀ x ∈ W, (str x).size ≤ 16000 := fun x hx => by
  have h1 := splitL_mem 32 (bl line) x (by rw [hW]; exact hx)
  rw [bl_size] at h1
  have h2 : (str x).size = x.length := by rw [← bl_size, bl_str]
  omega
 have hdl : (W.drop 1).length = W.length - 1 := by simp
 obtain ⟨m, hm⟩ : ∃ m, W.length = m + 1 := ⟨W.length - 1, by omega⟩
 have hvm : vs.length = m := by omega
 have HVM := Lib.hid hvm
 clear hvm hvl
 have HV := Lib.hid hvp
 have HM := Lib.hid hm
 have HMEM := Lib.hid hmem
 have HX0 := Lib.hid hx0
 have HWD := Lib.hid hwd
 have H := Lib.hid h
 have HLN := Lib.hid (rows_len h)
 have HS := Lib.hid hs
 have hm16 : m ≤ 16000 := by omega
 rw [hm] at HSP
 obtain ⟨i0, hi, hz0, hz1, hz2⟩ := info_parts info_int
 have HVS := Lib.hid hvs2
 clear hvs2
 clear h hs hW hx0 hwd hvs hvp hWl hW8 hmem hdl hm
 go_enter Tryz.func43, Tryz.ntmps43
 go_wp2_with fail
 refine (HSP.out _).mono ?_
 rintro e w1 ⟨Aw, cw, rfl, how, hb1⟩
 obtain ⟨g, cap, hv, hgb, hglt⟩ := how.form (by omega)
 injection hv with hv _ hcap
 subst hv hcap
 have BX : Hid (Blk w1 w.heap.size 34 #[.int .i64 day, .slice A n c, .int .i64 pa, .int .i64 le, .string d, .string p, .int .i64 z]) := Lib.hid ((((Blk.new w _ _).ext (ext_alloc (ext_refl _) _))).ext hb1)
 have BR : Hid (Blk w1 (w.heap.size + 1) 34 #[.int .i64 0, .slice none 0 0, .int .i64 0, .int .i64 0, .string ⟨#[]⟩, .string ⟨#[]⟩, .int .i64 0]) := Lib.hid (by
  have := (Blk.new (w.alloc (.cells #[.int .i64 day, .slice A n c, .int .i64 pa, .int .i64 le, .string d, .string p, .int .i64 z] 34)) #[.int .i64 0, .slice none 0 0, .int .i64 0, .int .i64 0, .string ⟨#[]⟩, .string ⟨#[]⟩, .int .i64 0] 34).ext hb1
  simpa using this)
 have hw1 := Lib.hid (ext_trans (ext_alloc (ext_alloc (ext_refl w) _) _) hb1)
 have s1 : w.heap.size + 1 < w1.heap.size := by have := hb1.size; simp at this; omega
 have hgs : w.heap.size + 1 < g := by simp at hgb; omega
 have HC0 : Hid (∀ (k : Nat) (x : List UInt8), W[k]? = some x → w1.cell? ⟨g, k, none⟩ = some (.string (str x))) := Lib.hid (fun k x hx => by
  rw [how.cellAt k (by have := (List.getElem?_eq_some_iff.1 hx).1; have := HM.out; omega)]
  simp [strsV, hx])
 clear hb1 how hgb
 go_wp2_with fail
 go_loopw [7, 8] (fun v i wr => ∃ j : Nat, 1 ≤ j ∧ j ≤ m + 1 ∧ i = .int .i64 j ∧ Hid (wr.ownsRow w1.heap.size 3 1 v (j - 1) (intsV (vs.take (j - 1)))) ∧ Hid (Below w1.heap.size w1 wr)) (fun _ i _ => m + 1 - (intOf i).toNat)
 case atStart => exact ⟨1, Nat.le_refl _, by omega, rfl, Lib.hid (own_lit0 w1 3 1), Lib.hid (ext_alloc (ext_refl _) _)⟩
 case round =>
  obtain ⟨j, hj1, hj, rfl, hown, HB⟩ := hrel
  by_cases hlt : j < m + 1
  · obtain ⟨x, hx⟩ := list_split (l := W) (k := j) (by rw [HM.out]; omega)
    obtain ⟨v, hv, hp⟩ := HV.out (j - 1) x (by rw [List.getElem?_drop, show 1 + (j - 1) = j from by omega]; exact hx)
    have hxs := HMEM.out x (List.mem_of_getElem? hx)
    have HPI := Lib.hid (fun (w : World) => specParseInt_any (str x) w (by omega))
    rw [hp] at HPI
    have c0 := ext_cell HB.out (HC0.out j x hx)
    have hgw : g < wr.heap.size := Nat.lt_of_lt_of_le hglt HB.out.size
    have hnew : Hid (intsV (vs.take (j - 1 + 1)) = intsV (vs.take (j - 1)) ++ [.int .i64 v]) := Lib.hid (by rw [List.take_add_one, hv]; simp [intsV])
    have m1 : j - 1 + 1 ≤ maxLen := by unfold maxLen; omega
    have m2 : (j - 1 + 1) * 8 ≤ 140737488355328 := by omega
    have hlt' : (j : Int) < ((m + 1 : Nat) : Int) := by omega
    have hlt2 : (j : Int) < (m : Int) + 1 := by omega
    clear hx hv hp
    go_wp2_with fail
    refine (HPI.out _).mono ?_
    rintro e w5 ⟨rfl, hb⟩
    have hown5 := Lib.hid (own_ext hown.out hb)
    have HB5 := Lib.hid (ext_trans HB.out hb)
    have hSome : (some v).isSome = true := rfl
    clear hb c0
    go_wp2_with (at_builtin; refine wpList_append_own _ rfl (.tmp 31) (.tmp 33) 53 rfl w1.heap.size 3 i0 _ 1 8 Tryz.underlying53 hi hz0 hz1 hz2 rfl (by decide) _ _ _ rfl (hown5.out.alloc _) _ 1 1 [.int .i64 v] rfl rfl (cell_one_at _ _ _ (by simp)) (by simp [Value.oneCell']) m1 m2 (by have := HB5.out.size; simp; omega) ?_; intro v' w2 hown2 hgrow _)
    go_roundw
    case rel =>
     refine ⟨j + 1, by omega, by omega, by go_num, ?_, Lib.hid (below_grown hown5.out (ext_alloc HB5.out _) hgrow)⟩
     refine Lib.hid ?_
     rw [show j + 1 - 1 = j - 1 + 1 from by omega, hnew.out]
     exact hown2
    case measure => simp [intOf]; omega
  · obtain rfl : j = m + 1 := by omega
    have hown1 := hown.out
    rw [Nat.add_sub_cancel, List.take_of_length_le (by rw [HVM.out]; exact Nat.le_refl _)] at hown1
    obtain ⟨An, cn, rfl⟩ := own_shape hown1
    have hvs2 := HVS.out
    subst hvs2
    clear HVS
    obtain rfl : m = 2 := HVM.out.symm
    have BXr := Lib.hid (BX.out.ext HB.out)
    have BRr := Lib.hid (BR.out.ext HB.out)
    have hwr := Lib.hid (ext_trans hw1.out HB.out)
    have hgw : g < wr.heap.size := Nat.lt_of_lt_of_le hglt HB.out.size
    have sX := BXr.out.lt
    have sR := BRr.out.lt
    have cw0 := ext_cell HB.out (HC0.out 0 x0 HX0.out)
    rw [HWD.out] at cw0
    obtain ⟨x0, x1, x2, x3, x4, x5, x6⟩ := BXr.out.q7
    obtain ⟨r0, r1, r2, r3, r4, r5, r6⟩ := BRr.out.q7
    obtain ⟨fr0, fr1, fr2, fr3, fr4, fr5, fr6⟩ := BRr.out.z7
    obtain ⟨gn, capn, hvn, hgnb, hgnlt⟩ := hown1.form (by omega)
    injection hvn with hvn _ hcapn
    subst hvn hcapn
    have n0 : wr.cell? ⟨gn, 0, none⟩ = some (.int .i64 i1) := by rw [hown1.cellAt 0 (by omega)]; rfl
    have n1 : wr.cell? ⟨gn, 1, none⟩ = some (.int .i64 i2) := by rw [hown1.cellAt 1 (by omega)]; rfl
    clear hown hown1 HSP HV HMEM HC0 BX BR hw1
    go_wp2_with fail
    go_region_held3 (fun w' => w'.cell? ⟨w.heap.size, 0, none⟩ = some (.int .i64 day) ∧ w'.cell? ⟨w.heap.size, 1, none⟩ = some (.slice A n c) ∧ w'.cell? ⟨w.heap.size, 2, none⟩ = some (.int .i64 pa) ∧ w'.cell? ⟨w.heap.size, 3, none⟩ = some (.int .i64 le) ∧ w'.cell? ⟨w.heap.size, 4, none⟩ = some (.string d) ∧ w'.cell? ⟨w.heap.size, 5, none⟩ = some (.string p) ∧ w'.cell? ⟨w.heap.size, 6, none⟩ = some (.int .i64 z) ∧ w'.cell? ⟨g, 0, none⟩ = some (.string word) ∧ w'.cell? ⟨gn, 0, none⟩ = some (.int .i64 i1) ∧ w'.cell? ⟨gn, 1, none⟩ = some (.int .i64 i2)) (first | (go_split_ands; ((repeat' refine And.intro ?_ ?_) <;> with_reducible (repeat (first | assumption | refine cell_drew ?_ | refine cell_old ?_ _ | refine ext_cell hb8 ?_ | refine cell_set_far (by first | (show w.heap.size + 1 ≠ w.heap.size; omega) | (show w.heap.size + 1 ≠ g; omega) | (show w.heap.size + 1 ≠ gn; omega)) ?_))))) (first | (go_at_call 76; refine (HF.out _ (by refine Reads.more (B := w.heap.size) (Reads.ext H.out (by repeat (first | (with_reducible exact hwr.out) | (with_reducible refine ext_drew ?_) | (with_reducible refine ext_set ?_ (by show w.heap.size ≤ w.heap.size + 1; omega) _))) (Nat.le_refl _)) (by (try simp); omega))).mono ?_; rintro e w8 ⟨A8, N8, c8, D8, P8, Q8, L8, rfl, hq8, rfl, hsl8, hb8⟩; have HQ8 := Lib.hid hq8; clear hq8; have HSL8 := Lib.hid hsl8; clear hsl8; have HB8 := Lib.hid hb8; have R8x := Lib.hid (BRr.out.ext (ext_trans (ext_drew (ext_refl _)) hb8)); have zs8 := hb8.size; have zR8 : w.heap.size + 1 < w8.heap.size := (by (try simp at zs8); omega); (try (have R8 := (BRr).out.ext (ext_trans (ext_drew (ext_refl _)) hb8); obtain ⟨z80, z81, z82, z83, z84, z85, z86⟩ := R8.q7; obtain ⟨fz80, fz81, fz82, fz83, fz84, fz85, fz86⟩ := R8.z7; clear R8)); (try (have R8 := (BRr).out.ext (ext_trans (ext_alloc (ext_drew (ext_refl _)) _) hb8); obtain ⟨z80, z81, z82, z83, z84, z85, z86⟩ := R8.q7; obtain ⟨fz80, fz81, fz82, fz83, fz84, fz85, fz86⟩ := R8.z7; clear R8)); (try (have R8 := (BRr).out.ext (ext_trans (ext_drew (ext_alloc (ext_refl _) _)) hb8); obtain ⟨z80, z81, z82, z83, z84, z85, z86⟩ := R8.q7; obtain ⟨fz80, fz81, fz82, fz83, fz84, fz85, fz86⟩ := R8.z7; clear R8))))

    go_wp2
    refine bodyPost_ret (v := .tuple #[conV D8 A8 L8.length c8 P8 Q8 d p z, .string tx]) (by simp [results, Tryz.results43, go_sem, *]) rfl ?_
    refine ⟨A8, L8.length, c8, D8, P8, Q8, L8, rfl, HQ8.out, rfl, ?_, ?_⟩
    · rcases HSL8.out with ho | hx
      · have hne := own_nb ho R8x.out (by decide)
        refine .inl ?_
        iterate 7 refine own_set_nb ?_ hne _
        exact own_base ho hwr.out.size
      · exact .inr hx
    · iterate 7 refine ext_set ?_ (by show w.heap.size ≤ w.heap.size + 1; omega) _
      exact ext_trans (ext_drew hwr.out) HB8.out
end Go.Proofs.YtkcbgiegoadkbaaGreat
