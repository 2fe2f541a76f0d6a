/- The program's reply to a command of one word. -/
import Derived.Test.YtkcbgiegoadkbaaGreatVM8
namespace Go.Proofs.YtkcbgiegoadkbaaGreat
open Go.RowKit
set_option linter.unusedVariables false
set_option linter.unusedSimpArgs false
set_option maxRecDepth 100000 in
set_option maxHeartbeats 4000000 in
theorem reply_day (day pa le : Int) (A : Option Addr) (n c : Nat) (l : List R5) (line : ByteArray) (w : World) (hn : n ≤ 8) (hA : SlOk A n c) (h : Reads w w.heap.size 5 A n (rowsV l)) (hs : schB day l pa le = true) (hline : line.size ≤ 16000) (hday : 0 ≤ day ∧ day ≤ 4000)
 (W : List (List UInt8)) (x0 : List UInt8) (word : ByteArray) (vs : List Int) (hW : splitL 32 (bl line) = W) (hx0 : W[0]? = some x0) (hwd : str x0 = word) (hvs : numsO (W.drop 1) = some vs) (hvs2 : vs = []) (hw : word = ⟨#[100, 97, 121]⟩) :
 Calls Tryz.prog 34 #[schV day A n c pa le, .string line] w (RetRep A n c l (some ((day, l, pa, le), decI day)) w) := by
 subst hw
 obtain ⟨hd0, hd1⟩ := hday
 have HSP := Lib.hid (show ∀ w : World, Calls Tryz.prog 57 #[.string line, .int .u8 32] w (RetSlice w 9 1 W.length (strsV W)) from fun w => by rw [← hW]; exact split_any line 32 w (by omega))
 obtain ⟨hvl, hvp⟩ := numsO_some _ _ hvs
 have hWl : 1 ≤ W.length := by have := (List.getElem?_eq_some_iff.1 hx0).1; omega
 have hW8 : W.length ≤ 16001 := by
  have h1 := splitL_len 32 (bl line)
  have h2 := List.count_le_length (a := (32 : UInt8)) (l := bl line)
  rw [bl_size] at h2
  rw [hW] at h1
  omega
 have hmem : ∀ x ∈ W, (str x).size ≤ 16000 := fun x hx => by
  have h1 := splitL_mem 32 (bl line) x (by rw [hW]; exact hx)
  rw [bl_size] at h1
  have h2 : (str x).size = x.length := by rw [← bl_size, bl_str]
  omega
 have hdl : (W.drop 1).length = W.length - 1 := by simp
 obtain ⟨m, hm⟩ : ∃ m, W.length = m + 1 := ⟨W.length - 1, by omega⟩
 have hvm : vs.length = m := by omega
 have HV := Lib.hid hvp
 have HM := Lib.hid hm
 have HVM := Lib.hid hvm
 have HMEM := Lib.hid hmem
 have HX0 := Lib.hid hx0
 have HWD := Lib.hid hwd
 have H := Lib.hid h
 have HS := Lib.hid hs
 have hm16 : m ≤ 16000 := by omega
 rw [hm] at HSP
 obtain ⟨i0, hi, hz0, hz1, hz2⟩ := info_parts info_int
 have HVS := Lib.hid hvs2
 clear hvs2 h hs hW hx0 hwd hvs hvl hvp hWl hW8 hmem hdl hm hvm
 go_enter Tryz.func34, Tryz.ntmps34
 go_wp2_with fail
 refine (HSP.out _).mono ?_
 rintro e w1 ⟨Aw, cw, rfl, how, hb1⟩
 obtain ⟨g, cap, hv, hgb, hglt⟩ := how.form (by omega)
 injection hv with hv _ hcap
 subst hv hcap
 have BX := Lib.hid (((Blk.new w #[.int .i64 day, .slice A n c, .int .i64 pa, .int .i64 le] 32).ext (ext_alloc (ext_refl _) (.cells #[.int .i64 0, .slice none 0 0, .int .i64 0, .int .i64 0] 32))).ext hb1)
 have BR : Hid (Blk w1 (w.heap.size + 1) 32 #[.int .i64 0, .slice none 0 0, .int .i64 0, .int .i64 0]) := Lib.hid (by
  have := (Blk.new (w.alloc (.cells #[.int .i64 day, .slice A n c, .int .i64 pa, .int .i64 le] 32)) #[.int .i64 0, .slice none 0 0, .int .i64 0, .int .i64 0] 32).ext hb1
  simpa using this)
 have hw1 := Lib.hid (ext_trans (ext_alloc (ext_alloc (ext_refl w) _) _) hb1)
 have s1 : w.heap.size + 1 < w1.heap.size := by have := hb1.size; simp at this; omega
 have hgs : w.heap.size + 1 < g := by simp at hgb; omega
 have hcw : m + 1 ≤ cw := own_cap3 how
 have HOW := Lib.hid (own_base (base' := 0) how (Nat.zero_le _))
 have HC0 : Hid (∀ (k : Nat) (x : List UInt8), W[k]? = some x → w1.cell? ⟨g, k, none⟩ = some (.string (str x))) := Lib.hid (fun k x hx => by
  rw [how.cellAt k (by have := (List.getElem?_eq_some_iff.1 hx).1; have := HM.out; omega)]
  simp [strsV, hx])
 clear hb1 how hgb
 go_upto_region 3 with fail
 go_cut [30, 31, 32] (fun s30 s31 s32 wx => ∃ (A2 : Option Addr) (c2 : Nat), s30 = .slice A2 m c2 ∧ s31 = .int .i64 m ∧ s32 = .int .i64 0 ∧ wx = w1 ∧ (0 < m → A2 = some ⟨g, 1, none⟩))
 case first =>
  by_cases hc1 : cw = 1
  · subst hc1
    obtain rfl : m = 0 := by omega
    go_wp2_with fail
    go_meet
    exact ⟨_, _, rfl, rfl, rfl, rfl, fun hm0 => absurd hm0 (by omega)⟩
  · go_wp2_with fail
    go_meet
    exact ⟨_, _, rfl, rfl, rfl, rfl, fun _ => rfl⟩
 case rest =>
 obtain ⟨A2, c2, rfl, rfl, rfl, rfl, hA2⟩ := hcut
 have HA2 := Lib.hid hA2
 clear hA2 hcw
 go_wp2_with fail
 go_loopw [8, 32] (fun v i wr => ∃ k : Nat, k ≤ m ∧ i = .int .i64 k ∧ Hid (wr.ownsRow wc.heap.size 3 1 v k (intsV (vs.take k))) ∧ Hid (Below wc.heap.size wc wr)) (fun _ i _ => m - (intOf i).toNat)
 case atStart => exact ⟨0, Nat.zero_le _, rfl, Lib.hid (World.ownsRow_nil _ _ _ _), Lib.hid (ext_refl _)⟩
 case round =>
  obtain ⟨k, hk, rfl, hown, HB⟩ := hrel
  by_cases hlt : k < m
  · obtain ⟨x, hx⟩ := list_split (l := W) (k := 1 + k) (by rw [HM.out]; omega)
    obtain ⟨v, hv, hp⟩ := HV.out k x (by rw [List.getElem?_drop]; exact hx)
    have hxs := HMEM.out x (List.mem_of_getElem? hx)
    have HPI := Lib.hid (fun (w : World) => implParseInt_any (str x) w (by omega))
    rw [hp] at HPI
    have c0 := ext_cell HB.out (HC0.out (1 + k) x hx)
    have hgw : g < wr.heap.size := Nat.lt_of_lt_of_le hglt HB.out.size
    have hnew : Hid (intsV (vs.take (k + 1)) = intsV (vs.take k) ++ [.int .i64 v]) := Lib.hid (by rw [List.take_add_one, hv]; simp [intsV])
    have hA3 := HA2.out (by omega)
    subst hA3
    have m1 : k + 1 ≤ maxLen := by unfold maxLen; omega
    have m2 : (k + 1) * 8 ≤ 140737488355328 := by omega
    have hlt' : (k : Int) < (m : Int) := by omega
    clear hx hv hp
    go_wp2_with fail
    refine (HPI.out _).mono ?_
    rintro e w5 ⟨rfl, hb⟩
    have hown5 := Lib.hid (own_ext hown.out hb)
    have HB5 := Lib.hid (ext_trans HB.out hb)
    have hSome : (some v).isSome = true := rfl
    clear hb c0
    go_wp2_with (at_builtin; refine wpList_append_own _ rfl (.tmp 44) (.tmp 46) 53 rfl wc.heap.size 3 i0 _ 1 8 Tryz.underlying53 hi hz0 hz1 hz2 rfl (by decide) _ _ _ rfl (hown5.out.alloc _) _ 1 1 [.int .i64 v] rfl rfl (cell_one_at _ _ _ (by simp)) (by simp [Value.oneCell']) m1 m2 (by have := HB5.out.size; simp; omega) ?_; intro v' w2 hown2 hgrow _)
    go_roundw
    case rel =>
     refine ⟨k + 1, by omega, by go_num, ?_, Lib.hid (below_grown hown5.out (ext_alloc HB5.out _) hgrow)⟩
     refine Lib.hid ?_
     rw [hnew.out]
     exact hown2
    case measure => simp [intOf]; omega
  · obtain rfl : k = m := by omega
    have hown1 := hown.out
    rw [List.take_of_length_le (by rw [HVM.out]; exact Nat.le_refl _)] at hown1
    obtain ⟨An, cn, rfl⟩ := own_shape hown1
    have hvs2 := HVS.out
    subst hvs2
    clear HVS
    obtain rfl : k = 0 := HVM.out.symm
    have BXr := Lib.hid (BX.out.ext HB.out)
    have BRr := Lib.hid (BR.out.ext HB.out)
    have hwr := Lib.hid (ext_trans hw1.out HB.out)
    have hgw : g < wr.heap.size := Nat.lt_of_lt_of_le hglt HB.out.size
    have sX := BXr.out.lt
    have sR := BRr.out.lt
    have cw0 := ext_cell HB.out (HC0.out 0 x0 HX0.out)
    rw [HWD.out] at cw0
    obtain ⟨x0r, x1r, x2r, x3r⟩ := BXr.out.q4
    obtain ⟨y0r, y1r, y2r, y3r⟩ := BRr.out.q4
    obtain ⟨fy0r, fy1r, fy2r, fy3r⟩ := BRr.out.z4
    have HON := Lib.hid hown1
    clear hown hown1 HSP HV HMEM HC0 HOW BX BR hw1
    go_wp2_with fail
    go_region_held3 (fun w' => w'.cell? ⟨w.heap.size, 0, none⟩ = some (.int .i64 day) ∧ w'.cell? ⟨w.heap.size, 1, none⟩ = some (.slice A n c) ∧ w'.cell? ⟨w.heap.size, 2, none⟩ = some (.int .i64 pa) ∧ w'.cell? ⟨w.heap.size, 3, none⟩ = some (.int .i64 le)) (first | (go_split_ands; ((repeat' refine And.intro ?_ ?_) <;> with_reducible (repeat (first | assumption | refine cell_drew ?_ | refine cell_old ?_ _ | refine ext_cell hb8 ?_ | refine cell_set_far (by first | (show w.heap.size + 1 ≠ w.heap.size; omega)) ?_))))) (first | (go_at_call 62; refine (text_any day _ (by omega) (by omega)).mono ?_; rintro e w8 ⟨rfl, hb8⟩; have HB8 := Lib.hid hb8; obtain ⟨hc8, hf8⟩ := bcell hb8; have zs8 := hb8.size; have zR8 : w.heap.size + 1 < w8.heap.size := (by (try simp at zs8); omega); (try (have R8 := (BRr).out.ext (ext_trans (ext_drew (ext_refl _)) hb8); obtain ⟨z80, z81, z82, z83⟩ := R8.q4; obtain ⟨fz80, fz81, fz82, fz83⟩ := R8.z4; clear R8)); (try (have R8 := (BRr).out.ext (ext_trans (ext_alloc (ext_drew (ext_refl _)) _) hb8); obtain ⟨z80, z81, z82, z83⟩ := R8.q4; obtain ⟨fz80, fz81, fz82, fz83⟩ := R8.z4; clear R8)); (try (have R8 := (BRr).out.ext (ext_trans (ext_drew (ext_alloc (ext_refl _) _)) hb8); obtain ⟨z80, z81, z82, z83⟩ := R8.q4; obtain ⟨fz80, fz81, fz82, fz83⟩ := R8.z4; clear R8))))
    all_goals go_wp2
    all_goals
     refine bodyPost_ret (v := .tuple #[schV day A n c pa le, .string (decI day), .bool true]) (by simp [results, Tryz.results34, go_sem, *]) rfl ?_
     refine ⟨A, n, c, day, pa, le, l, decI day, rfl, (fun y hy => ⟨by injection hy with hy; exact hy.symm, (rows_len H.out).symm, .inr ⟨rfl, rfl, rfl, rfl⟩⟩), ?_⟩
     exact (by repeat (first | (with_reducible exact hwr.out) | (with_reducible refine ext_drew ?_) | (with_reducible refine ext_alloc ?_ _) | (with_reducible refine ext_set ?_ (by show w.heap.size ≤ w.heap.size + 1; omega) _) | refine ext_trans ?_ HB8.out))
set_option maxRecDepth 100000 in
set_option maxHeartbeats 4000000 in
theorem reply_ready (day pa le : Int) (A : Option Addr) (n c : Nat) (l : List R5) (line : ByteArray) (w : World) (hn : n ≤ 8) (hA : SlOk A n c) (h : Reads w w.heap.size 5 A n (rowsV l)) (hs : schB day l pa le = true) (hline : line.size ≤ 16000) (hday : 0 ≤ day ∧ day ≤ 4000)
 (W : List (List UInt8)) (x0 : List UInt8) (word : ByteArray) (vs : List Int) (hW : splitL 32 (bl line) = W) (hx0 : W[0]? = some x0) (hwd : str x0 = word) (hvs : numsO (W.drop 1) = some vs) (hvs2 : vs = []) (hw : word = ⟨#[114, 101, 97, 100, 121]⟩) :
 Calls Tryz.prog 34 #[schV day A n c pa le, .string line] w (RetRep A n c l (some ((day, l, pa, le), listT (selB (readyR day) day pa le l))) w) := by
 subst hw
 have hlen := selB_len (readyR day) day pa le l
 rw [rows_len h] at hlen
 have hsm := selB_small (p := readyR day) hs
 have HSL := Lib.hid (fun (w : World) h => implReady_any day pa le A n c l w (by omega) h)
 rw [hs] at HSL
 obtain ⟨ns, hns⟩ : ∃ ns, selB (readyR day) day pa le l = ns := ⟨_, rfl⟩
 rw [hns] at HSL hlen hsm ⊢
 obtain ⟨N, hN⟩ : ∃ N, ns.length = N := ⟨_, rfl⟩
 rw [hN] at HSL hlen
 have HSM := Lib.hid hsm
 clear hns hN hsm
 have HSP := Lib.hid (show ∀ w : World, Calls Tryz.prog 57 #[.string line, .int .u8 32] w (RetSlice w 9 1 W.length (strsV W)) from fun w => by rw [← hW]; exact split_any line 32 w (by omega))
 obtain ⟨hvl, hvp⟩ := numsO_some _ _ hvs
 have hWl : 1 ≤ W.length := by have := (List.getElem?_eq_some_iff.1 hx0).1; omega
 have hW8 : W.length ≤ 16001 := by
  have h1 := splitL_len 32 (bl line)
  have h2 := List.count_le_length (a := (32 : UInt8)) (l := bl line)
  rw [bl_size] at h2
  rw [hW] at h1
  omega
 have hmem : ∀ x ∈ W, (str x).size ≤ 16000 := fun x hx => by
  have h1 := splitL_mem 32 (bl line) x (by rw [hW]; exact hx)
  rw [bl_size] at h1
  have h2 : (str x).size = x.length := by rw [← bl_size, bl_str]
  omega
 have hdl : (W.drop 1).length = W.length - 1 := by simp
 obtain ⟨m, hm⟩ : ∃ m, W.length = m + 1 := ⟨W.length - 1, by omega⟩
 have hvm : vs.length = m := by omega
 have HV := Lib.hid hvp
 have HM := Lib.hid hm
 have HVM := Lib.hid hvm
 have HMEM := Lib.hid hmem
 have HX0 := Lib.hid hx0
 have HWD := Lib.hid hwd
 have H := Lib.hid h
 have HS := Lib.hid hs
 have hm16 : m ≤ 16000 := by omega
 rw [hm] at HSP
 obtain ⟨i0, hi, hz0, hz1, hz2⟩ := info_parts info_int
 have HVS := Lib.hid hvs2
 clear hvs2 h hs hW hx0 hwd hvs hvl hvp hWl hW8 hmem hdl hm hvm
 go_enter Tryz.func34, Tryz.ntmps34
 go_wp2_with fail
 refine (HSP.out _).mono ?_
 rintro e w1 ⟨Aw, cw, rfl, how, hb1⟩
 obtain ⟨g, cap, hv, hgb, hglt⟩ := how.form (by omega)
 injection hv with hv _ hcap
 subst hv hcap
 have BX := Lib.hid (((Blk.new w #[.int .i64 day, .slice A n c, .int .i64 pa, .int .i64 le] 32).ext (ext_alloc (ext_refl _) (.cells #[.int .i64 0, .slice none 0 0, .int .i64 0, .int .i64 0] 32))).ext hb1)
 have BR : Hid (Blk w1 (w.heap.size + 1) 32 #[.int .i64 0, .slice none 0 0, .int .i64 0, .int .i64 0]) := Lib.hid (by
  have := (Blk.new (w.alloc (.cells #[.int .i64 day, .slice A n c, .int .i64 pa, .int .i64 le] 32)) #[.int .i64 0, .slice none 0 0, .int .i64 0, .int .i64 0] 32).ext hb1
  simpa using this)
 have hw1 := Lib.hid (ext_trans (ext_alloc (ext_alloc (ext_refl w) _) _) hb1)
 have s1 : w.heap.size + 1 < w1.heap.size := by have := hb1.size; simp at this; omega
 have hgs : w.heap.size + 1 < g := by simp at hgb; omega
 have hcw : m + 1 ≤ cw := own_cap3 how
 have HOW := Lib.hid (own_base (base' := 0) how (Nat.zero_le _))
 have HC0 : Hid (∀ (k : Nat) (x : List UInt8), W[k]? = some x → w1.cell? ⟨g, k, none⟩ = some (.string (str x))) := Lib.hid (fun k x hx => by
  rw [how.cellAt k (by have := (List.getElem?_eq_some_iff.1 hx).1; have := HM.out; omega)]
  simp [strsV, hx])
 clear hb1 how hgb
 go_upto_region 3 with fail
 go_cut [30, 31, 32] (fun s30 s31 s32 wx => ∃ (A2 : Option Addr) (c2 : Nat), s30 = .slice A2 m c2 ∧ s31 = .int .i64 m ∧ s32 = .int .i64 0 ∧ wx = w1 ∧ (0 < m → A2 = some ⟨g, 1, none⟩))
 case first =>
  by_cases hc1 : cw = 1
  · subst hc1
    obtain rfl : m = 0 := by omega
    go_wp2_with fail
    go_meet
    exact ⟨_, _, rfl, rfl, rfl, rfl, fun hm0 => absurd hm0 (by omega)⟩
  · go_wp2_with fail
    go_meet
    exact ⟨_, _, rfl, rfl, rfl, rfl, fun _ => rfl⟩
 case rest =>
 obtain ⟨A2, c2, rfl, rfl, rfl, rfl, hA2⟩ := hcut
 have HA2 := Lib.hid hA2
 clear hA2 hcw
 go_wp2_with fail
 go_loopw [8, 32] (fun v i wr => ∃ k : Nat, k ≤ m ∧ i = .int .i64 k ∧ Hid (wr.ownsRow wc.heap.size 3 1 v k (intsV (vs.take k))) ∧ Hid (Below wc.heap.size wc wr)) (fun _ i _ => m - (intOf i).toNat)
 case atStart => exact ⟨0, Nat.zero_le _, rfl, Lib.hid (World.ownsRow_nil _ _ _ _), Lib.hid (ext_refl _)⟩
 case round =>
  obtain ⟨k, hk, rfl, hown, HB⟩ := hrel
  by_cases hlt : k < m
  · obtain ⟨x, hx⟩ := list_split (l := W) (k := 1 + k) (by rw [HM.out]; omega)
    obtain ⟨v, hv, hp⟩ := HV.out k x (by rw [List.getElem?_drop]; exact hx)
    have hxs := HMEM.out x (List.mem_of_getElem? hx)
    have HPI := Lib.hid (fun (w : World) => implParseInt_any (str x) w (by omega))
    rw [hp] at HPI
    have c0 := ext_cell HB.out (HC0.out (1 + k) x hx)
    have hgw : g < wr.heap.size := Nat.lt_of_lt_of_le hglt HB.out.size
    have hnew : Hid (intsV (vs.take (k + 1)) = intsV (vs.take k) ++ [.int .i64 v]) := Lib.hid (by rw [List.take_add_one, hv]; simp [intsV])
    have hA3 := HA2.out (by omega)
    subst hA3
    have m1 : k + 1 ≤ maxLen := by unfold maxLen; omega
    have m2 : (k + 1) * 8 ≤ 140737488355328 := by omega
    have hlt' : (k : Int) < (m : Int) := by omega
    clear hx hv hp
    go_wp2_with fail
    refine (HPI.out _).mono ?_
    rintro e w5 ⟨rfl, hb⟩
    have hown5 := Lib.hid (own_ext hown.out hb)
    have HB5 := Lib.hid (ext_trans HB.out hb)
    have hSome : (some v).isSome = true := rfl
    clear hb c0
    go_wp2_with (at_builtin; refine wpList_append_own _ rfl (.tmp 44) (.tmp 46) 53 rfl wc.heap.size 3 i0 _ 1 8 Tryz.underlying53 hi hz0 hz1 hz2 rfl (by decide) _ _ _ rfl (hown5.out.alloc _) _ 1 1 [.int .i64 v] rfl rfl (cell_one_at _ _ _ (by simp)) (by simp [Value.oneCell']) m1 m2 (by have := HB5.out.size; simp; omega) ?_; intro v' w2 hown2 hgrow _)
    go_roundw
    case rel =>
     refine ⟨k + 1, by omega, by go_num, ?_, Lib.hid (below_grown hown5.out (ext_alloc HB5.out _) hgrow)⟩
     refine Lib.hid ?_
     rw [hnew.out]
     exact hown2
    case measure => simp [intOf]; omega
  · obtain rfl : k = m := by omega
    have hown1 := hown.out
    rw [List.take_of_length_le (by rw [HVM.out]; exact Nat.le_refl _)] at hown1
    obtain ⟨An, cn, rfl⟩ := own_shape hown1
    have hvs2 := HVS.out
    subst hvs2
    clear HVS
    obtain rfl : k = 0 := HVM.out.symm
    have BXr := Lib.hid (BX.out.ext HB.out)
    have BRr := Lib.hid (BR.out.ext HB.out)
    have hwr := Lib.hid (ext_trans hw1.out HB.out)
    have hgw : g < wr.heap.size := Nat.lt_of_lt_of_le hglt HB.out.size
    have sX := BXr.out.lt
    have sR := BRr.out.lt
    have cw0 := ext_cell HB.out (HC0.out 0 x0 HX0.out)
    rw [HWD.out] at cw0
    obtain ⟨x0r, x1r, x2r, x3r⟩ := BXr.out.q4
    obtain ⟨y0r, y1r, y2r, y3r⟩ := BRr.out.q4
    obtain ⟨fy0r, fy1r, fy2r, fy3r⟩ := BRr.out.z4
    have HON := Lib.hid hown1
    clear hown hown1 HSP HV HMEM HC0 HOW BX BR hw1
    go_wp2_with fail
    refine (HSL.out _ ((H.out.ext hwr.out (Nat.le_refl _)).more hwr.out.size)).mono ?_
    rintro e w5 ⟨As, cs, rfl, hos, hb5⟩
    have HOS := Lib.hid (own_base (base' := 0) hos (Nat.zero_le _))
    clear hos
    have BX5 := Lib.hid (BXr.out.ext hb5)
    have BR5 := Lib.hid (BRr.out.ext hb5)
    have hw5 := Lib.hid (ext_trans hwr.out hb5)
    have s5 := hb5.size
    have hg5 : g < w5.heap.size := by omega
    have sX5 := BX5.out.lt
    have sR5 := BR5.out.lt
    obtain ⟨x50, x51, x52, x53⟩ := BX5.out.q4
    obtain ⟨y50, y51, y52, y53⟩ := BR5.out.q4
    obtain ⟨fy50, fy51, fy52, fy53⟩ := BR5.out.z4
    clear x0r x1r x2r x3r y0r y1r y2r y3r fy0r fy1r fy2r fy3r cw0  hb5
    have hneS := Lib.hid (own_nb HOS.out BR5.out (by decide))
    go_wp2_with fail
    go_region_held3 (fun w' => w'.cell? ⟨w.heap.size, 0, none⟩ = some (.int .i64 day) ∧ w'.cell? ⟨w.heap.size, 1, none⟩ = some (.slice A n c) ∧ w'.cell? ⟨w.heap.size, 2, none⟩ = some (.int .i64 pa) ∧ w'.cell? ⟨w.heap.size, 3, none⟩ = some (.int .i64 le)) (first | (go_split_ands; ((repeat' refine And.intro ?_ ?_) <;> with_reducible (repeat (first | assumption | refine cell_drew ?_ | refine cell_old ?_ _ | refine ext_cell hb8 ?_ | refine cell_set_far (by first | (show w.heap.size + 1 ≠ w.heap.size; omega)) ?_))))) (first | (go_at_call 63; refine (listed_any As N cs ns _ (by omega) HSM.out (Reads.of_own (base := 0) (e := 3) (c := cs) (by repeat (first | (with_reducible exact HOS.out) | (with_reducible refine World.ownsRow.drew ?_) | (with_reducible refine own_set_nb ?_ hneS.out _))))).mono ?_; rintro e w8 ⟨rfl, hb8⟩; have HB8 := Lib.hid hb8; obtain ⟨hc8, hf8⟩ := bcell hb8; have zs8 := hb8.size; have zR8 : w.heap.size + 1 < w8.heap.size := (by (try simp at zs8); omega); (try (have R8 := (BR5).out.ext (ext_trans (ext_drew (ext_refl _)) hb8); obtain ⟨z80, z81, z82, z83⟩ := R8.q4; obtain ⟨fz80, fz81, fz82, fz83⟩ := R8.z4; clear R8)); (try (have R8 := (BR5).out.ext (ext_trans (ext_alloc (ext_drew (ext_refl _)) _) hb8); obtain ⟨z80, z81, z82, z83⟩ := R8.q4; obtain ⟨fz80, fz81, fz82, fz83⟩ := R8.z4; clear R8)); (try (have R8 := (BR5).out.ext (ext_trans (ext_drew (ext_alloc (ext_refl _) _)) hb8); obtain ⟨z80, z81, z82, z83⟩ := R8.q4; obtain ⟨fz80, fz81, fz82, fz83⟩ := R8.z4; clear R8))))
    all_goals go_wp2
    all_goals
     refine bodyPost_ret (v := .tuple #[schV day A n c pa le, .string (listT ns), .bool true]) (by simp [results, Tryz.results34, go_sem, *]) rfl ?_
     refine ⟨A, n, c, day, pa, le, l, listT ns, rfl, (fun y hy => ⟨by injection hy with hy; exact hy.symm, (rows_len H.out).symm, .inr ⟨rfl, rfl, rfl, rfl⟩⟩), ?_⟩
     exact (by repeat (first | (with_reducible exact hw5.out) | (with_reducible refine ext_drew ?_) | (with_reducible refine ext_alloc ?_ _) | (with_reducible refine ext_set ?_ (by show w.heap.size ≤ w.heap.size + 1; omega) _) | refine ext_trans ?_ HB8.out))
set_option maxRecDepth 100000 in
set_option maxHeartbeats 4000000 in
theorem reply_unpaid (day pa le : Int) (A : Option Addr) (n c : Nat) (l : List R5) (line : ByteArray) (w : World) (hn : n ≤ 8) (hA : SlOk A n c) (h : Reads w w.heap.size 5 A n (rowsV l)) (hs : schB day l pa le = true) (hline : line.size ≤ 16000) (hday : 0 ≤ day ∧ day ≤ 4000)
 (W : List (List UInt8)) (x0 : List UInt8) (word : ByteArray) (vs : List Int) (hW : splitL 32 (bl line) = W) (hx0 : W[0]? = some x0) (hwd : str x0 = word) (hvs : numsO (W.drop 1) = some vs) (hvs2 : vs = []) (hw : word = ⟨#[117, 110, 112, 97, 105, 100]⟩) :
 Calls Tryz.prog 34 #[schV day A n c pa le, .string line] w (RetRep A n c l (some ((day, l, pa, le), listT (selB (unpR day) day pa le l))) w) := by
 subst hw
 have hlen := selB_len (unpR day) day pa le l
 rw [rows_len h] at hlen
 have hsm := selB_small (p := unpR day) hs
 have HSL := Lib.hid (fun (w : World) h => implUnp_any day pa le A n c l w (by omega) h)
 rw [hs] at HSL
 obtain ⟨ns, hns⟩ : ∃ ns, selB (unpR day) day pa le l = ns := ⟨_, rfl⟩
 rw [hns] at HSL hlen hsm ⊢
 obtain ⟨N, hN⟩ : ∃ N, ns.length = N := ⟨_, rfl⟩
 rw [hN] at HSL hlen
 have HSM := Lib.hid hsm
 clear hns hN hsm
 have HSP := Lib.hid (show ∀ w : World, Calls Tryz.prog 57 #[.string line, .int .u8 32] w (RetSlice w 9 1 W.length (strsV W)) from fun w => by rw [← hW]; exact split_any line 32 w (by omega))
 obtain ⟨hvl, hvp⟩ := numsO_some _ _ hvs
 have hWl : 1 ≤ W.length := by have := (List.getElem?_eq_some_iff.1 hx0).1; omega
 have hW8 : W.length ≤ 16001 := by
  have h1 := splitL_len 32 (bl line)
  have h2 := List.count_le_length (a := (32 : UInt8)) (l := bl line)
  rw [bl_size] at h2
  rw [hW] at h1
  omega
 have hmem : ∀ x ∈ W, (str x).size ≤ 16000 := fun x hx => by
  have h1 := splitL_mem 32 (bl line) x (by rw [hW]; exact hx)
  rw [bl_size] at h1
  have h2 : (str x).size = x.length := by rw [← bl_size, bl_str]
  omega
 have hdl : (W.drop 1).length = W.length - 1 := by simp
 obtain ⟨m, hm⟩ : ∃ m, W.length = m + 1 := ⟨W.length - 1, by omega⟩
 have hvm : vs.length = m := by omega
 have HV := Lib.hid hvp
 have HM := Lib.hid hm
 have HVM := Lib.hid hvm
 have HMEM := Lib.hid hmem
 have HX0 := Lib.hid hx0
 have HWD := Lib.hid hwd
 have H := Lib.hid h
 have HS := Lib.hid hs
 have hm16 : m ≤ 16000 := by omega
 rw [hm] at HSP
 obtain ⟨i0, hi, hz0, hz1, hz2⟩ := info_parts info_int
 have HVS := Lib.hid hvs2
 clear hvs2 h hs hW hx0 hwd hvs hvl hvp hWl hW8 hmem hdl hm hvm
 go_enter Tryz.func34, Tryz.ntmps34
 go_wp2_with fail
 refine (HSP.out _).mono ?_
 rintro e w1 ⟨Aw, cw, rfl, how, hb1⟩
 obtain ⟨g, cap, hv, hgb, hglt⟩ := how.form (by omega)
 injection hv with hv _ hcap
 subst hv hcap
 have BX := Lib.hid (((Blk.new w #[.int .i64 day, .slice A n c, .int .i64 pa, .int .i64 le] 32).ext (ext_alloc (ext_refl _) (.cells #[.int .i64 0, .slice none 0 0, .int .i64 0, .int .i64 0] 32))).ext hb1)
 have BR : Hid (Blk w1 (w.heap.size + 1) 32 #[.int .i64 0, .slice none 0 0, .int .i64 0, .int .i64 0]) := Lib.hid (by
  have := (Blk.new (w.alloc (.cells #[.int .i64 day, .slice A n c, .int .i64 pa, .int .i64 le] 32)) #[.int .i64 0, .slice none 0 0, .int .i64 0, .int .i64 0] 32).ext hb1
  simpa using this)
 have hw1 := Lib.hid (ext_trans (ext_alloc (ext_alloc (ext_refl w) _) _) hb1)
 have s1 : w.heap.size + 1 < w1.heap.size := by have := hb1.size; simp at this; omega
 have hgs : w.heap.size + 1 < g := by simp at hgb; omega
 have hcw : m + 1 ≤ cw := own_cap3 how
 have HOW := Lib.hid (own_base (base' := 0) how (Nat.zero_le _))
 have HC0 : Hid (∀ (k : Nat) (x : List UInt8), W[k]? = some x → w1.cell? ⟨g, k, none⟩ = some (.string (str x))) := Lib.hid (fun k x hx => by
  rw [how.cellAt k (by have := (List.getElem?_eq_some_iff.1 hx).1; have := HM.out; omega)]
  simp [strsV, hx])
 clear hb1 how hgb
 go_upto_region 3 with fail
 go_cut [30, 31, 32] (fun s30 s31 s32 wx => ∃ (A2 : Option Addr) (c2 : Nat), s30 = .slice A2 m c2 ∧ s31 = .int .i64 m ∧ s32 = .int .i64 0 ∧ wx = w1 ∧ (0 < m → A2 = some ⟨g, 1, none⟩))
 case first =>
  by_cases hc1 : cw = 1
  · subst hc1
    obtain rfl : m = 0 := by omega
    go_wp2_with fail
    go_meet
    exact ⟨_, _, rfl, rfl, rfl, rfl, fun hm0 => absurd hm0 (by omega)⟩
  · go_wp2_with fail
    go_meet
    exact ⟨_, _, rfl, rfl, rfl, rfl, fun _ => rfl⟩
 case rest =>
 obtain ⟨A2, c2, rfl, rfl, rfl, rfl, hA2⟩ := hcut
 have HA2 := Lib.hid hA2
 clear hA2 hcw
 go_wp2_with fail
 go_loopw [8, 32] (fun v i wr => ∃ k : Nat, k ≤ m ∧ i = .int .i64 k ∧ Hid (wr.ownsRow wc.heap.size 3 1 v k (intsV (vs.take k))) ∧ Hid (Below wc.heap.size wc wr)) (fun _ i _ => m - (intOf i).toNat)
 case atStart => exact ⟨0, Nat.zero_le _, rfl, Lib.hid (World.ownsRow_nil _ _ _ _), Lib.hid (ext_refl _)⟩
 case round =>
  obtain ⟨k, hk, rfl, hown, HB⟩ := hrel
  by_cases hlt : k < m
  · obtain ⟨x, hx⟩ := list_split (l := W) (k := 1 + k) (by rw [HM.out]; omega)
    obtain ⟨v, hv, hp⟩ := HV.out k x (by rw [List.getElem?_drop]; exact hx)
    have hxs := HMEM.out x (List.mem_of_getElem? hx)
    have HPI := Lib.hid (fun (w : World) => implParseInt_any (str x) w (by omega))
    rw [hp] at HPI
    have c0 := ext_cell HB.out (HC0.out (1 + k) x hx)
    have hgw : g < wr.heap.size := Nat.lt_of_lt_of_le hglt HB.out.size
    have hnew : Hid (intsV (vs.take (k + 1)) = intsV (vs.take k) ++ [.int .i64 v]) := Lib.hid (by rw [List.take_add_one, hv]; simp [intsV])
    have hA3 := HA2.out (by omega)
    subst hA3
    have m1 : k + 1 ≤ maxLen := by unfold maxLen; omega
    have m2 : (k + 1) * 8 ≤ 140737488355328 := by omega
    have hlt' : (k : Int) < (m : Int) := by omega
    clear hx hv hp
    go_wp2_with fail
    refine (HPI.out _).mono ?_
    rintro e w5 ⟨rfl, hb⟩
    have hown5 := Lib.hid (own_ext hown.out hb)
    have HB5 := Lib.hid (ext_trans HB.out hb)
    have hSome : (some v).isSome = true := rfl
    clear hb c0
    go_wp2_with (at_builtin; refine wpList_append_own _ rfl (.tmp 44) (.tmp 46) 53 rfl wc.heap.size 3 i0 _ 1 8 Tryz.underlying53 hi hz0 hz1 hz2 rfl (by decide) _ _ _ rfl (hown5.out.alloc _) _ 1 1 [.int .i64 v] rfl rfl (cell_one_at _ _ _ (by simp)) (by simp [Value.oneCell']) m1 m2 (by have := HB5.out.size; simp; omega) ?_; intro v' w2 hown2 hgrow _)
    go_roundw
    case rel =>
     refine ⟨k + 1, by omega, by go_num, ?_, Lib.hid (below_grown hown5.out (ext_alloc HB5.out _) hgrow)⟩
     refine Lib.hid ?_
     rw [hnew.out]
     exact hown2
    case measure => simp [intOf]; omega
  · obtain rfl : k = m := by omega
    have hown1 := hown.out
    rw [List.take_of_length_le (by rw [HVM.out]; exact Nat.le_refl _)] at hown1
    obtain ⟨An, cn, rfl⟩ := own_shape hown1
    have hvs2 := HVS.out
    subst hvs2
    clear HVS
    obtain rfl : k = 0 := HVM.out.symm
    have BXr := Lib.hid (BX.out.ext HB.out)
    have BRr := Lib.hid (BR.out.ext HB.out)
    have hwr := Lib.hid (ext_trans hw1.out HB.out)
    have hgw : g < wr.heap.size := Nat.lt_of_lt_of_le hglt HB.out.size
    have sX := BXr.out.lt
    have sR := BRr.out.lt
    have cw0 := ext_cell HB.out (HC0.out 0 x0 HX0.out)
    rw [HWD.out] at cw0
    obtain ⟨x0r, x1r, x2r, x3r⟩ := BXr.out.q4
    obtain ⟨y0r, y1r, y2r, y3r⟩ := BRr.out.q4
    obtain ⟨fy0r, fy1r, fy2r, fy3r⟩ := BRr.out.z4
    have HON := Lib.hid hown1
    clear hown hown1 HSP HV HMEM HC0 HOW BX BR hw1
    go_wp2_with fail
    refine (HSL.out _ ((H.out.ext hwr.out (Nat.le_refl _)).more hwr.out.size)).mono ?_
    rintro e w5 ⟨As, cs, rfl, hos, hb5⟩
    have HOS := Lib.hid (own_base (base' := 0) hos (Nat.zero_le _))
    clear hos
    have BX5 := Lib.hid (BXr.out.ext hb5)
    have BR5 := Lib.hid (BRr.out.ext hb5)
    have hw5 := Lib.hid (ext_trans hwr.out hb5)
    have s5 := hb5.size
    have hg5 : g < w5.heap.size := by omega
    have sX5 := BX5.out.lt
    have sR5 := BR5.out.lt
    obtain ⟨x50, x51, x52, x53⟩ := BX5.out.q4
    obtain ⟨y50, y51, y52, y53⟩ := BR5.out.q4
    obtain ⟨fy50, fy51, fy52, fy53⟩ := BR5.out.z4
    clear x0r x1r x2r x3r y0r y1r y2r y3r fy0r fy1r fy2r fy3r cw0  hb5
    have hneS := Lib.hid (own_nb HOS.out BR5.out (by decide))
    go_wp2_with fail
    go_region_held3 (fun w' => w'.cell? ⟨w.heap.size, 0, none⟩ = some (.int .i64 day) ∧ w'.cell? ⟨w.heap.size, 1, none⟩ = some (.slice A n c) ∧ w'.cell? ⟨w.heap.size, 2, none⟩ = some (.int .i64 pa) ∧ w'.cell? ⟨w.heap.size, 3, none⟩ = some (.int .i64 le)) (first | (go_split_ands; ((repeat' refine And.intro ?_ ?_) <;> with_reducible (repeat (first | assumption | refine cell_drew ?_ | refine cell_old ?_ _ | refine ext_cell hb8 ?_ | refine cell_set_far (by first | (show w.heap.size + 1 ≠ w.heap.size; omega)) ?_))))) (first | (go_at_call 63; refine (listed_any As N cs ns _ (by omega) HSM.out (Reads.of_own (base := 0) (e := 3) (c := cs) (by repeat (first | (with_reducible exact HOS.out) | (with_reducible refine World.ownsRow.drew ?_) | (with_reducible refine own_set_nb ?_ hneS.out _))))).mono ?_; rintro e w8 ⟨rfl, hb8⟩; have HB8 := Lib.hid hb8; obtain ⟨hc8, hf8⟩ := bcell hb8; have zs8 := hb8.size; have zR8 : w.heap.size + 1 < w8.heap.size := (by (try simp at zs8); omega); (try (have R8 := (BR5).out.ext (ext_trans (ext_drew (ext_refl _)) hb8); obtain ⟨z80, z81, z82, z83⟩ := R8.q4; obtain ⟨fz80, fz81, fz82, fz83⟩ := R8.z4; clear R8)); (try (have R8 := (BR5).out.ext (ext_trans (ext_alloc (ext_drew (ext_refl _)) _) hb8); obtain ⟨z80, z81, z82, z83⟩ := R8.q4; obtain ⟨fz80, fz81, fz82, fz83⟩ := R8.z4; clear R8)); (try (have R8 := (BR5).out.ext (ext_trans (ext_drew (ext_alloc (ext_refl _) _)) hb8); obtain ⟨z80, z81, z82, z83⟩ := R8.q4; obtain ⟨fz80, fz81, fz82, fz83⟩ := R8.z4; clear R8))))
    all_goals go_wp2
    all_goals
     refine bodyPost_ret (v := .tuple #[schV day A n c pa le, .string (listT ns), .bool true]) (by simp [results, Tryz.results34, go_sem, *]) rfl ?_
     refine ⟨A, n, c, day, pa, le, l, listT ns, rfl, (fun y hy => ⟨by injection hy with hy; exact hy.symm, (rows_len H.out).symm, .inr ⟨rfl, rfl, rfl, rfl⟩⟩), ?_⟩
     exact (by repeat (first | (with_reducible exact hw5.out) | (with_reducible refine ext_drew ?_) | (with_reducible refine ext_alloc ?_ _) | (with_reducible refine ext_set ?_ (by show w.heap.size ≤ w.heap.size + 1; omega) _) | refine ext_trans ?_ HB8.out))
set_option maxRecDepth 100000 in
set_option maxHeartbeats 4000000 in
theorem reply_0n (day pa le : Int) (A : Option Addr) (n c : Nat) (l : List R5) (line : ByteArray) (w : World) (hn : n ≤ 8) (hA : SlOk A n c) (h : Reads w w.heap.size 5 A n (rowsV l)) (hs : schB day l pa le = true) (hline : line.size ≤ 16000) (hday : 0 ≤ day ∧ day ≤ 4000)
 (W : List (List UInt8)) (x0 : List UInt8) (word : ByteArray) (vs : List Int) (hW : splitL 32 (bl line) = W) (hx0 : W[0]? = some x0) (hwd : str x0 = word) (hvs : numsO (W.drop 1) = some vs) (hvs2 : vs = []) (hw0 : word ≠ ⟨#[100, 97, 121]⟩) (hw1 : word ≠ ⟨#[114, 101, 97, 100, 121]⟩) (hw2 : word ≠ ⟨#[117, 110, 112, 97, 105, 100]⟩) :
 Calls Tryz.prog 34 #[schV day A n c pa le, .string line] w (RetRep A n c l (none) w) := by
 have b0 : (word.toList == [100, 97, 121]) = false := lit_no hw0 rfl
 have b1 : (word.toList == [114, 101, 97, 100, 121]) = false := lit_no hw1 rfl
 have b2 : (word.toList == [117, 110, 112, 97, 105, 100]) = false := lit_no hw2 rfl
 clear hw0 hw1 hw2
 have HSP := Lib.hid (show ∀ w : World, Calls Tryz.prog 57 #[.string line, .int .u8 32] w (RetSlice w 9 1 W.length (strsV W)) from fun w => by rw [← hW]; exact split_any line 32 w (by omega))
 obtain ⟨hvl, hvp⟩ := numsO_some _ _ hvs
 have hWl : 1 ≤ W.length := by have := (List.getElem?_eq_some_iff.1 hx0).1; omega
 have hW8 : W.length ≤ 16001 := by
  have h1 := splitL_len 32 (bl line)
  have h2 := List.count_le_length (a := (32 : UInt8)) (l := bl line)
  rw [bl_size] at h2
  rw [hW] at h1
  omega
 have hmem : ∀ x ∈ W, (str x).size ≤ 16000 := fun x hx => by
  have h1 := splitL_mem 32 (bl line) x (by rw [hW]; exact hx)
  rw [bl_size] at h1
  have h2 : (str x).size = x.length := by rw [← bl_size, bl_str]
  omega
 have hdl : (W.drop 1).length = W.length - 1 := by simp
 obtain ⟨m, hm⟩ : ∃ m, W.length = m + 1 := ⟨W.length - 1, by omega⟩
 have hvm : vs.length = m := by omega
 have HV := Lib.hid hvp
 have HM := Lib.hid hm
 have HVM := Lib.hid hvm
 have HMEM := Lib.hid hmem
 have HX0 := Lib.hid hx0
 have HWD := Lib.hid hwd
 have H := Lib.hid h
 have HS := Lib.hid hs
 have hm16 : m ≤ 16000 := by omega
 rw [hm] at HSP
 obtain ⟨i0, hi, hz0, hz1, hz2⟩ := info_parts info_int
 have HVS := Lib.hid hvs2
 clear hvs2 h hs hW hx0 hwd hvs hvl hvp hWl hW8 hmem hdl hm hvm
 go_enter Tryz.func34, Tryz.ntmps34
 go_wp2_with fail
 refine (HSP.out _).mono ?_
 rintro e w1 ⟨Aw, cw, rfl, how, hb1⟩
 obtain ⟨g, cap, hv, hgb, hglt⟩ := how.form (by omega)
 injection hv with hv _ hcap
 subst hv hcap
 have BX := Lib.hid (((Blk.new w #[.int .i64 day, .slice A n c, .int .i64 pa, .int .i64 le] 32).ext (ext_alloc (ext_refl _) (.cells #[.int .i64 0, .slice none 0 0, .int .i64 0, .int .i64 0] 32))).ext hb1)
 have BR : Hid (Blk w1 (w.heap.size + 1) 32 #[.int .i64 0, .slice none 0 0, .int .i64 0, .int .i64 0]) := Lib.hid (by
  have := (Blk.new (w.alloc (.cells #[.int .i64 day, .slice A n c, .int .i64 pa, .int .i64 le] 32)) #[.int .i64 0, .slice none 0 0, .int .i64 0, .int .i64 0] 32).ext hb1
  simpa using this)
 have hw1 := Lib.hid (ext_trans (ext_alloc (ext_alloc (ext_refl w) _) _) hb1)
 have s1 : w.heap.size + 1 < w1.heap.size := by have := hb1.size; simp at this; omega
 have hgs : w.heap.size + 1 < g := by simp at hgb; omega
 have hcw : m + 1 ≤ cw := own_cap3 how
 have HOW := Lib.hid (own_base (base' := 0) how (Nat.zero_le _))
 have HC0 : Hid (∀ (k : Nat) (x : List UInt8), W[k]? = some x → w1.cell? ⟨g, k, none⟩ = some (.string (str x))) := Lib.hid (fun k x hx => by
  rw [how.cellAt k (by have := (List.getElem?_eq_some_iff.1 hx).1; have := HM.out; omega)]
  simp [strsV, hx])
 clear hb1 how hgb
 go_upto_region 3 with fail
 go_cut [30, 31, 32] (fun s30 s31 s32 wx => ∃ (A2 : Option Addr) (c2 : Nat), s30 = .slice A2 m c2 ∧ s31 = .int .i64 m ∧ s32 = .int .i64 0 ∧ wx = w1 ∧ (0 < m → A2 = some ⟨g, 1, none⟩))
 case first =>
  by_cases hc1 : cw = 1
  · subst hc1
    obtain rfl : m = 0 := by omega
    go_wp2_with fail
    go_meet
    exact ⟨_, _, rfl, rfl, rfl, rfl, fun hm0 => absurd hm0 (by omega)⟩
  · go_wp2_with fail
    go_meet
    exact ⟨_, _, rfl, rfl, rfl, rfl, fun _ => rfl⟩
 case rest =>
 obtain ⟨A2, c2, rfl, rfl, rfl, rfl, hA2⟩ := hcut
 have HA2 := Lib.hid hA2
 clear hA2 hcw
 go_wp2_with fail
 go_loopw [8, 32] (fun v i wr => ∃ k : Nat, k ≤ m ∧ i = .int .i64 k ∧ Hid (wr.ownsRow wc.heap.size 3 1 v k (intsV (vs.take k))) ∧ Hid (Below wc.heap.size wc wr)) (fun _ i _ => m - (intOf i).toNat)
 case atStart => exact ⟨0, Nat.zero_le _, rfl, Lib.hid (World.ownsRow_nil _ _ _ _), Lib.hid (ext_refl _)⟩
 case round =>
  obtain ⟨k, hk, rfl, hown, HB⟩ := hrel
  by_cases hlt : k < m
  · obtain ⟨x, hx⟩ := list_split (l := W) (k := 1 + k) (by rw [HM.out]; omega)
    obtain ⟨v, hv, hp⟩ := HV.out k x (by rw [List.getElem?_drop]; exact hx)
    have hxs := HMEM.out x (List.mem_of_getElem? hx)
    have HPI := Lib.hid (fun (w : World) => implParseInt_any (str x) w (by omega))
    rw [hp] at HPI
    have c0 := ext_cell HB.out (HC0.out (1 + k) x hx)
    have hgw : g < wr.heap.size := Nat.lt_of_lt_of_le hglt HB.out.size
    have hnew : Hid (intsV (vs.take (k + 1)) = intsV (vs.take k) ++ [.int .i64 v]) := Lib.hid (by rw [List.take_add_one, hv]; simp [intsV])
    have hA3 := HA2.out (by omega)
    subst hA3
    have m1 : k + 1 ≤ maxLen := by unfold maxLen; omega
    have m2 : (k + 1) * 8 ≤ 140737488355328 := by omega
    have hlt' : (k : Int) < (m : Int) := by omega
    clear hx hv hp
    go_wp2_with fail
    refine (HPI.out _).mono ?_
    rintro e w5 ⟨rfl, hb⟩
    have hown5 := Lib.hid (own_ext hown.out hb)
    have HB5 := Lib.hid (ext_trans HB.out hb)
    have hSome : (some v).isSome = true := rfl
    clear hb c0
    go_wp2_with (at_builtin; refine wpList_append_own _ rfl (.tmp 44) (.tmp 46) 53 rfl wc.heap.size 3 i0 _ 1 8 Tryz.underlying53 hi hz0 hz1 hz2 rfl (by decide) _ _ _ rfl (hown5.out.alloc _) _ 1 1 [.int .i64 v] rfl rfl (cell_one_at _ _ _ (by simp)) (by simp [Value.oneCell']) m1 m2 (by have := HB5.out.size; simp; omega) ?_; intro v' w2 hown2 hgrow _)
    go_roundw
    case rel =>
     refine ⟨k + 1, by omega, by go_num, ?_, Lib.hid (below_grown hown5.out (ext_alloc HB5.out _) hgrow)⟩
     refine Lib.hid ?_
     rw [hnew.out]
     exact hown2
    case measure => simp [intOf]; omega
  · obtain rfl : k = m := by omega
    have hown1 := hown.out
    rw [List.take_of_length_le (by rw [HVM.out]; exact Nat.le_refl _)] at hown1
    obtain ⟨An, cn, rfl⟩ := own_shape hown1
    have hvs2 := HVS.out
    subst hvs2
    clear HVS
    obtain rfl : k = 0 := HVM.out.symm
    have BXr := Lib.hid (BX.out.ext HB.out)
    have BRr := Lib.hid (BR.out.ext HB.out)
    have hwr := Lib.hid (ext_trans hw1.out HB.out)
    have hgw : g < wr.heap.size := Nat.lt_of_lt_of_le hglt HB.out.size
    have sX := BXr.out.lt
    have sR := BRr.out.lt
    have cw0 := ext_cell HB.out (HC0.out 0 x0 HX0.out)
    rw [HWD.out] at cw0
    obtain ⟨x0r, x1r, x2r, x3r⟩ := BXr.out.q4
    obtain ⟨y0r, y1r, y2r, y3r⟩ := BRr.out.q4
    obtain ⟨fy0r, fy1r, fy2r, fy3r⟩ := BRr.out.z4
    have HON := Lib.hid hown1
    clear hown hown1 HSP HV HMEM HC0 HOW BX BR hw1
    go_wp2
    refine bodyPost_ret (v := .tuple #[schV day A n c pa le, .string (⟨#[]⟩), .bool false]) (by simp [results, Tryz.results34, go_sem, *]) rfl ?_
    refine ⟨A, n, c, day, pa, le, l, ⟨#[]⟩, rfl, (fun y hy => nomatch hy), ?_⟩
    iterate 4 refine ext_set ?_ (by show w.heap.size ≤ w.heap.size + 1; omega) _
    exact hwr.out
end Go.Proofs.YtkcbgiegoadkbaaGreat
