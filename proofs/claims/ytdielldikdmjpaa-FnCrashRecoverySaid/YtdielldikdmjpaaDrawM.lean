/- The drawing of a log's bytes. -/
import Derived.Test.YtdielldikdmjpaaDrawL
namespace Go.Proofs.Ytdielldikdmjpaa
open Go.RowKit
set_option linter.unusedVariables false
set_option linter.unusedSimpArgs false
theorem info_u8 : (Try.prog.info? 5).map (fun i => (i.zero, i.size, i.bytes)) = some (some (.int .u8 0), 1, 1) := by kernel_rfl
theorem zeros_back (w : World) (base n c cap : Nat) (g : Nat) (h : w.ownsRow base 5 1 (.slice (some ⟨g, 0, none⟩) n c) n (madeCells (Value.cells (.int .u8 0)) (n * 1)).toList) :
    (convert 55 9 (.slice (some ⟨g, 0, none⟩) n cap)).run Try.prog w = .ok (.string (str (List.replicate n 0))) w :=
  bytes_back w Try.underlying55 Try.underlying5 Try.underlying9 g n cap (List.replicate n 0) (by simp) (fun j hj => by
    rw [h.cellAt j (by omega), Nat.mul_one, show Value.cells (.int .u8 0) = #[.int .u8 0] from rfl, toList_madeCells_one]
    simp [hj, List.getD])
set_option maxHeartbeats 2000000 in
theorem drawRecover_any (A : Option Addr) (n c : Nat) (w : World) (h : Code w w.heap.size A n) (hn : n ≤ 65536) :
    Calls Try.prog 40 #[.slice A n c] w fun e w' => ∃ (s : ByteArray), e = .returned (.string s) ∧ s.size ≤ 40000 ∧ Below w.heap.size w w' := by
  obtain ⟨i0, ji, jz0, jz1, jz2⟩ := info_parts info_u8
  have HC := Lib.hid (h.cur (by omega) c)
  clear h
  go_enter Try.func40, Try.ntmps40
  go_wp2_with fail
  refine (log_any _ 0 _ HC.out (by omega)).mono ?_
  rintro e w1 ⟨d, p, z, a1, rfl, hdp, hz0, hz6, ha1, hc1, hg1⟩
  have s01 : w.heap.size < w1.heap.size := hc1.lt
  have HX := Lib.hid (Gr.below (ext_alloc (ext_refl w) (.cells #[.slice A n c, .int .i64 0, .int .u64 0] 75)) hg1 (Nat.le_refl _))
  obtain ⟨S, hS⟩ : ∃ S, d ++ p = S := ⟨_, rfl⟩
  have zS : S.size ≤ 510 := by rw [← hS, ByteArray.size_append]; exact hdp
  have zS' : d.size + p.size = S.size := by rw [← hS, ByteArray.size_append]
  clear hg1
  go_wp2_with fail
  clear hS
  refine (pick_any _ a1 4 _ (hc1.ext (ext_alloc (ext_refl _) _)) (by omega) (by omega) (by omega)).mono ?_
  rintro e w2 ⟨q, a2, rfl, q0, q1, ha2, hc2, hg2⟩
  have HX := Lib.hid (Gr.below (ext_alloc HX.out (.cells #[.string d, .string p, .int .i64 z] 33)) hg2 (Nat.le_refl _))
  clear hc1 hg2
  rcases (show q = 0 ∨ q = 1 ∨ q = 2 ∨ q = 3 by omega) with rfl | rfl | rfl | rfl
  · go_wp2_with fail
    refine (spoilt_any _ a2 S ⟨#[35, 64, 10, 48, 49]⟩ _ hc2 (by omega) (by omega) (by decide) (by decide)).mono ?_
    rintro e w3 ⟨s, a3, rfl, hs, ha3, hc3, hg3⟩
    have HX := Lib.hid (Gr.below HX.out hg3 (Nat.le_refl _))
    clear hg3
    go_wp2_with fail
    refine (one_any _ a3 40 _ hc3 (by omega) (by omega) (by omega)).mono ?_
    rintro e wA ⟨b, aA, rfl, haA, hcA, hgA⟩
    have HX := Lib.hid (Gr.below HX.out hgA (Nat.le_refl _))
    clear hgA
    cases b
    · go_wp2
      go_ret
      exact ⟨_, rfl, by omega, HX.out⟩
    · go_wp2_with fail
      refine (pick_any _ aA 2 _ hcA (by omega) (by omega) (by omega)).mono ?_
      rintro e wB ⟨y, aB, rfl, y0, y1, haB, hcB, hgB⟩
      have HX := Lib.hid (Gr.below HX.out hgB (Nat.le_refl _))
      clear hgB
      rcases (show y = 0 ∨ y = 1 by omega) with rfl | rfl
      · obtain ⟨N, hN⟩ : ∃ N : Nat, N = 30000 := ⟨_, rfl⟩
        have HN := Lib.hid hN
        have hN1 : N ≤ 30001 := by omega
        clear hN
        go_wp2_with (at_make; refine wpList_make_full _ rfl _ _ 55 rfl wB.heap.size 5 i0 _ 1 Try.underlying55 ji jz0 jz1 .i64 .i64 _ _ N rfl rfl (by have := HN.out; omega) (by have := HN.out; omega) (by rw [jz2]; omega) (by unfold maxLen; omega) (Nat.le_refl _) ?_; intro w0 hown0 hgrow0; have kz := zeros_back w0 wB.heap.size N N N wB.heap.size hown0)
        go_ret
        exact ⟨_, rfl, by rw [← bl_size, bl_str, List.length_replicate]; omega, HX.out.grown hgrow0 HX.out.size (fun _ h => by cases h)⟩
      · obtain ⟨N, hN⟩ : ∃ N : Nat, N = 30001 := ⟨_, rfl⟩
        have HN := Lib.hid hN
        have hN1 : N ≤ 30001 := by omega
        clear hN
        go_wp2_with (at_make; refine wpList_make_full _ rfl _ _ 55 rfl wB.heap.size 5 i0 _ 1 Try.underlying55 ji jz0 jz1 .i64 .i64 _ _ N rfl rfl (by have := HN.out; omega) (by have := HN.out; omega) (by rw [jz2]; omega) (by unfold maxLen; omega) (Nat.le_refl _) ?_; intro w0 hown0 hgrow0; have kz := zeros_back w0 wB.heap.size N N N wB.heap.size hown0)
        go_ret
        exact ⟨_, rfl, by rw [← bl_size, bl_str, List.length_replicate]; omega, HX.out.grown hgrow0 HX.out.size (fun _ h => by cases h)⟩
  · go_wp2_with fail
    refine (pick_any _ a2 (S.size + 1) _ hc2 (by omega) (by omega) (by omega)).mono ?_
    rintro e w3 ⟨y, a3, rfl, y0, y1, ha3, hc3, hg3⟩
    have HX := Lib.hid (Gr.below HX.out hg3 (Nat.le_refl _))
    clear hg3
    obtain ⟨k, rfl⟩ := Int.eq_ofNat_of_zero_le y0
    have hk : (k : Int) ≤ S.size := by omega
    have hk2 : (S.extract 0 k).size ≤ 510 := by rw [extract_size _ _ _ (by omega)]; omega
    go_wp2_with fail
    refine (one_any _ a3 40 _ hc3 (by omega) (by omega) (by omega)).mono ?_
    rintro e wA ⟨b, aA, rfl, haA, hcA, hgA⟩
    have HX := Lib.hid (Gr.below HX.out hgA (Nat.le_refl _))
    clear hgA
    cases b
    · go_wp2
      go_ret
      exact ⟨_, rfl, by omega, HX.out⟩
    · go_wp2_with fail
      refine (pick_any _ aA 2 _ hcA (by omega) (by omega) (by omega)).mono ?_
      rintro e wB ⟨y, aB, rfl, y0, y1, haB, hcB, hgB⟩
      have HX := Lib.hid (Gr.below HX.out hgB (Nat.le_refl _))
      clear hgB
      rcases (show y = 0 ∨ y = 1 by omega) with rfl | rfl
      · obtain ⟨N, hN⟩ : ∃ N : Nat, N = 30000 := ⟨_, rfl⟩
        have HN := Lib.hid hN
        have hN1 : N ≤ 30001 := by omega
        clear hN
        go_wp2_with (at_make; refine wpList_make_full _ rfl _ _ 55 rfl wB.heap.size 5 i0 _ 1 Try.underlying55 ji jz0 jz1 .i64 .i64 _ _ N rfl rfl (by have := HN.out; omega) (by have := HN.out; omega) (by rw [jz2]; omega) (by unfold maxLen; omega) (Nat.le_refl _) ?_; intro w0 hown0 hgrow0; have kz := zeros_back w0 wB.heap.size N N N wB.heap.size hown0)
        go_ret
        exact ⟨_, rfl, by rw [← bl_size, bl_str, List.length_replicate]; omega, HX.out.grown hgrow0 HX.out.size (fun _ h => by cases h)⟩
      · obtain ⟨N, hN⟩ : ∃ N : Nat, N = 30001 := ⟨_, rfl⟩
        have HN := Lib.hid hN
        have hN1 : N ≤ 30001 := by omega
        clear hN
        go_wp2_with (at_make; refine wpList_make_full _ rfl _ _ 55 rfl wB.heap.size 5 i0 _ 1 Try.underlying55 ji jz0 jz1 .i64 .i64 _ _ N rfl rfl (by have := HN.out; omega) (by have := HN.out; omega) (by rw [jz2]; omega) (by unfold maxLen; omega) (Nat.le_refl _) ?_; intro w0 hown0 hgrow0; have kz := zeros_back w0 wB.heap.size N N N wB.heap.size hown0)
        go_ret
        exact ⟨_, rfl, by rw [← bl_size, bl_str, List.length_replicate]; omega, HX.out.grown hgrow0 HX.out.size (fun _ h => by cases h)⟩
  · go_wp2_with fail
    refine (pick_any _ a2 4 _ hc2 (by omega) (by omega) (by omega)).mono ?_
    rintro e w3 ⟨y, a3, rfl, y0, y1, ha3, hc3, hg3⟩
    have HX := Lib.hid (Gr.below HX.out hg3 (Nat.le_refl _))
    clear hg3
    go_wp2_with fail
    refine (logRecord_any _ a3 _ hc3 (by omega)).mono ?_
    rintro e w4 ⟨s, r, a4, rfl, hs, hr, ha4, hc4, hg4⟩
    have HX := Lib.hid (Gr.below HX.out hg4 (Nat.le_refl _))
    clear hg4
    have zl := lineB_size y s r
    go_wp2_with fail
    refine (l27Line_any y s r _ (by omega) (by omega) (by omega) (by omega)).mono ?_
    generalize lineB y s r = X at zl
    rintro e w5 ⟨rfl, hb5⟩
    have HX := Lib.hid (ext_trans HX.out hb5)
    have hc5 := hc4.ext hb5
    have zSX : (S ++ X).size ≤ 2000 := by rw [ByteArray.size_append]; omega
    have zSX' : S.size + X.size ≤ 2000 := by omega
    go_wp2_with fail
    refine (one_any _ a4 40 _ hc5 (by omega) (by omega) (by omega)).mono ?_
    rintro e wA ⟨b, aA, rfl, haA, hcA, hgA⟩
    have HX := Lib.hid (Gr.below HX.out hgA (Nat.le_refl _))
    clear hgA
    cases b
    · go_wp2
      go_ret
      exact ⟨_, rfl, by omega, HX.out⟩
    · go_wp2_with fail
      refine (pick_any _ aA 2 _ hcA (by omega) (by omega) (by omega)).mono ?_
      rintro e wB ⟨y, aB, rfl, y0, y1, haB, hcB, hgB⟩
      have HX := Lib.hid (Gr.below HX.out hgB (Nat.le_refl _))
      clear hgB
      rcases (show y = 0 ∨ y = 1 by omega) with rfl | rfl
      · obtain ⟨N, hN⟩ : ∃ N : Nat, N = 30000 := ⟨_, rfl⟩
        have HN := Lib.hid hN
        have hN1 : N ≤ 30001 := by omega
        clear hN
        go_wp2_with (at_make; refine wpList_make_full _ rfl _ _ 55 rfl wB.heap.size 5 i0 _ 1 Try.underlying55 ji jz0 jz1 .i64 .i64 _ _ N rfl rfl (by have := HN.out; omega) (by have := HN.out; omega) (by rw [jz2]; omega) (by unfold maxLen; omega) (Nat.le_refl _) ?_; intro w0 hown0 hgrow0; have kz := zeros_back w0 wB.heap.size N N N wB.heap.size hown0)
        go_ret
        exact ⟨_, rfl, by rw [← bl_size, bl_str, List.length_replicate]; omega, HX.out.grown hgrow0 HX.out.size (fun _ h => by cases h)⟩
      · obtain ⟨N, hN⟩ : ∃ N : Nat, N = 30001 := ⟨_, rfl⟩
        have HN := Lib.hid hN
        have hN1 : N ≤ 30001 := by omega
        clear hN
        go_wp2_with (at_make; refine wpList_make_full _ rfl _ _ 55 rfl wB.heap.size 5 i0 _ 1 Try.underlying55 ji jz0 jz1 .i64 .i64 _ _ N rfl rfl (by have := HN.out; omega) (by have := HN.out; omega) (by rw [jz2]; omega) (by unfold maxLen; omega) (Nat.le_refl _) ?_; intro w0 hown0 hgrow0; have kz := zeros_back w0 wB.heap.size N N N wB.heap.size hown0)
        go_ret
        exact ⟨_, rfl, by rw [← bl_size, bl_str, List.length_replicate]; omega, HX.out.grown hgrow0 HX.out.size (fun _ h => by cases h)⟩
  · go_wp2_with fail
    refine (one_any _ a2 40 _ hc2 (by omega) (by omega) (by omega)).mono ?_
    rintro e wA ⟨b, aA, rfl, haA, hcA, hgA⟩
    have HX := Lib.hid (Gr.below HX.out hgA (Nat.le_refl _))
    clear hgA
    cases b
    · go_wp2
      go_ret
      exact ⟨_, rfl, by omega, HX.out⟩
    · go_wp2_with fail
      refine (pick_any _ aA 2 _ hcA (by omega) (by omega) (by omega)).mono ?_
      rintro e wB ⟨y, aB, rfl, y0, y1, haB, hcB, hgB⟩
      have HX := Lib.hid (Gr.below HX.out hgB (Nat.le_refl _))
      clear hgB
      rcases (show y = 0 ∨ y = 1 by omega) with rfl | rfl
      · obtain ⟨N, hN⟩ : ∃ N : Nat, N = 30000 := ⟨_, rfl⟩
        have HN := Lib.hid hN
        have hN1 : N ≤ 30001 := by omega
        clear hN
        go_wp2_with (at_make; refine wpList_make_full _ rfl _ _ 55 rfl wB.heap.size 5 i0 _ 1 Try.underlying55 ji jz0 jz1 .i64 .i64 _ _ N rfl rfl (by have := HN.out; omega) (by have := HN.out; omega) (by rw [jz2]; omega) (by unfold maxLen; omega) (Nat.le_refl _) ?_; intro w0 hown0 hgrow0; have kz := zeros_back w0 wB.heap.size N N N wB.heap.size hown0)
        go_ret
        exact ⟨_, rfl, by rw [← bl_size, bl_str, List.length_replicate]; omega, HX.out.grown hgrow0 HX.out.size (fun _ h => by cases h)⟩
      · obtain ⟨N, hN⟩ : ∃ N : Nat, N = 30001 := ⟨_, rfl⟩
        have HN := Lib.hid hN
        have hN1 : N ≤ 30001 := by omega
        clear hN
        go_wp2_with (at_make; refine wpList_make_full _ rfl _ _ 55 rfl wB.heap.size 5 i0 _ 1 Try.underlying55 ji jz0 jz1 .i64 .i64 _ _ N rfl rfl (by have := HN.out; omega) (by have := HN.out; omega) (by rw [jz2]; omega) (by unfold maxLen; omega) (Nat.le_refl _) ?_; intro w0 hown0 hgrow0; have kz := zeros_back w0 wB.heap.size N N N wB.heap.size hown0)
        go_ret
        exact ⟨_, rfl, by rw [← bl_size, bl_str, List.length_replicate]; omega, HX.out.grown hgrow0 HX.out.size (fun _ h => by cases h)⟩
end Go.Proofs.Ytdielldikdmjpaa
