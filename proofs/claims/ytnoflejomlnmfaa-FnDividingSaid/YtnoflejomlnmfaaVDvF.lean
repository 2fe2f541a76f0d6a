/- The drawings of the law FnDividing. -/
import Derived.Test.YtnoflejomlnmfaaVAdB
import Derived.Test.YtnoflejomlnmfaaVM9
namespace Go.Proofs.Ytnoflejomlnmfaa
open Go.RowKit
set_option linter.unusedVariables false
set_option linter.unusedSimpArgs false
theorem cur0D {w : World} {n : Nat} {A : Option Addr} (h : Code w w.heap.size A n) (hn : n ≤ 65536) (c : Nat) : CurAt (w.alloc (.cells #[.slice A n c, .int .i64 0, .int .u64 0] 67)) w.heap.size 0 := h.cur (by omega) c
def DDiv (w : World) (e : Ending) (w' : World) : Prop := ∃ x y : Int, e = .returned (.tuple #[.int .i64 x, .int .i64 y]) ∧ -1 ≤ x ∧ x ≤ 100000000 ∧ 0 ≤ y ∧ y ≤ 10000 ∧ Below w.heap.size w w'
set_option maxRecDepth 100000 in
set_option maxHeartbeats 4000000 in
theorem dividend_any (g a : Nat) (w : World) (h : CurAt w g a) (ha : a ≤ 800000000000) : Calls Try.prog 55 #[.pointer (some ⟨g, 0, none⟩)] w (DrawIn g a 2 (-1) 100000000 w) := by
 have HC0 := Lib.hid h
 clear h
 go_enter Try.func55, Try.ntmps55
 go_wp2_with fail
 refine (among_lit g a (-1) 100000000 [0, 1, 7, 36, 100, 999, 1024, 5040, 12345, 99999, 640000, 99999999, 100000000, -1, 27182818, 360] 3 _ HC0.out (by omega) (by decide) (by decide) (by decide) _ rfl (by simp)).mono ?_
 rintro e w1 ⟨z, a1, rfl, z0, z1, ha1, hc, hg⟩
 have HC1 := Lib.hid hc
 have HG1 := Lib.hid hg
 clear hc hg
 go_wp2
 go_ret
 exact ⟨z, a1, rfl, z0, z1, ha1, HC1.out, HG1.out⟩
set_option maxRecDepth 100000 in
set_option maxHeartbeats 4000000 in
theorem divisor_any (g a : Nat) (w : World) (h : CurAt w g a) (ha : a ≤ 800000000000) : Calls Try.prog 56 #[.pointer (some ⟨g, 0, none⟩)] w (DrawIn g a 2 (0) 10000 w) := by
 have HC0 := Lib.hid h
 clear h
 go_enter Try.func56, Try.ntmps56
 go_wp2_with fail
 refine (among_lit g a (0) 10000 [1, 2, 3, 7, 8, 9, 12, 19, 28, 37, 99, 100, 199, 499, 7919, 9999, 0, 10000] 3 _ HC0.out (by omega) (by decide) (by decide) (by decide) _ rfl (by simp)).mono ?_
 rintro e w1 ⟨z, a1, rfl, z0, z1, ha1, hc, hg⟩
 have HC1 := Lib.hid hc
 have HG1 := Lib.hid hg
 clear hc hg
 go_wp2
 go_ret
 exact ⟨z, a1, rfl, z0, z1, ha1, HC1.out, HG1.out⟩
set_option maxRecDepth 100000 in
set_option maxHeartbeats 4000000 in
theorem drawDivisionSteps_any (Ac : Option Addr) (nc cc : Nat) (w : World) (h : Code w w.heap.size Ac nc) (hn : nc ≤ 65536) : Calls Try.prog 21 #[.slice Ac nc cc] w (DDiv w) := by
 have HC0 := Lib.hid (cur0D h hn cc)
 have hbx := Lib.hid (ext_alloc (ext_refl w) (.cells #[.slice Ac nc cc, .int .i64 0, .int .u64 0] 67))
 clear h
 go_enter Try.func21, Try.ntmps21
 go_wp2_with fail
 refine (dividend_any _ 0 _ HC0.out (by omega)).mono ?_
 rintro e w1 ⟨x, a1, rfl, x0, x1, ha1, hc1, hg1⟩
 have HC1 := Lib.hid hc1
 have HB1 := Lib.hid (Gr.below hbx.out hg1 (Nat.le_refl _))
 clear hc1 hg1
 go_wp2_with fail
 refine (divisor_any _ a1 _ HC1.out (by omega)).mono ?_
 rintro e w2 ⟨y, a2, rfl, y0, y1, ha2, hc2, hg2⟩
 have HB2 := Lib.hid (Gr.below HB1.out hg2 (Nat.le_refl _))
 clear hc2 hg2
 go_wp2
 go_ret2
 exact ⟨x, y, rfl, x0, x1, y0, y1, HB2.out⟩
set_option maxHeartbeats 2000000 in
theorem drawCorrections_any (Ac : Option Addr) (nc cc : Nat) (w : World) (h : Code w w.heap.size Ac nc) (hn : nc ≤ 65536) : Calls Try.prog 37 #[.slice Ac nc cc] w (DDiv w) := by
 go_enter Try.func37, Try.ntmps37
 go_wp2_with fail
 refine (drawDivisionSteps_any Ac nc cc _ h hn).mono ?_
 rintro e w1 ⟨x, y, rfl, x0, x1, y0, y1, hb⟩
 go_wp2
 go_ret2
 exact ⟨x, y, rfl, x0, x1, y0, y1, hb⟩
def DQuotOn (w : World) (e : Ending) (w' : World) : Prop := ∃ (u lo : Int) (l : List R2) (A : Option Addr) (c : Nat) (z : Int), e = .returned (.tuple #[frV u lo A l.length c, .int .i64 z]) ∧ FrIn u lo l ∧ w'.ownsRow w.heap.size 99 2 (.slice A l.length c) l.length (rowsV2 l) ∧ Below w.heap.size w w'
set_option maxRecDepth 100000 in
set_option maxHeartbeats 4000000 in
theorem drawQuotientOn_any (Ac : Option Addr) (nc cc : Nat) (w : World) (h : Code w w.heap.size Ac nc) (hn : nc ≤ 65536) :
 Calls Try.prog 32 #[.slice Ac nc cc] w (DQuotOn w) := by
 have HC := Lib.hid (h.cur1 (by omega) cc (.cells #[.int .i64 0, .int .i64 0, .slice none 0 0] 26))
 have BR0 := Lib.hid ((Blk.born w #[.int .i64 0, .int .i64 0, .slice none 0 0] 26 (H := w.heap.size) rfl).al (.cells #[.slice Ac nc cc, .int .i64 0, .int .u64 0] 67))
 have hbx := Lib.hid (ext_alloc (ext_alloc (ext_refl w) (.cells #[.int .i64 0, .int .i64 0, .slice none 0 0] 26)) (.cells #[.slice Ac nc cc, .int .i64 0, .int .u64 0] 67))
 obtain ⟨g, hg⟩ : ∃ g, g = w.heap.size + 1 := ⟨_, rfl⟩
 rw [← hg] at HC
 have hwg : w.heap.size < g := by omega
 clear h
 go_enter Try.func32, Try.ntmps32
 go_wp2_with fail
 rw [← hg]
 have HGE := Lib.hid hg
 clear hg
 refine (stdFrame_any g 0 _ HC.out (by omega)).mono ?_
 rintro e w1 ⟨u, lo, l, A, c, a1, rfl, hIN, ha1, hr1, hc1, hg1⟩
 have HIN := Lib.hid hIN
 have BR1 := Lib.hid (BR0.out.gr hg1 (by omega))
 have HR1 := Lib.hid (own_base (base' := g + 1) hr1 (by rw [HGE.out]; simp <;> omega))
 have HC1 := Lib.hid hc1
 have HB1 := Lib.hid (Gr.below hbx.out hg1 (by omega))
 clear hIN hr1 hc1 hg1
 go_wp2_with fail
 refine (divisor_any g a1 _ HC1.out (by omega)).mono ?_
 rintro e w2 ⟨z, a2, rfl, z0, z1, ha2, hc2, hg2⟩
 have BR2 := Lib.hid (BR1.out.gr hg2 (by omega))
 have HR2 := Lib.hid (own_base (base' := w.heap.size) (own_gr HR1.out hg2 (Nat.lt_succ_self g)) (by omega))
 have HB2 := Lib.hid (Gr.below HB1.out hg2 (by omega))
 clear hc2 hg2
 obtain ⟨r0, r1, r2⟩ := BR2.out.q3
 obtain ⟨y0, y1, y2⟩ := BR2.out.z3
 have lr := BR2.out.lt
 go_wp2
 refine bodyPost_ret (v := .tuple #[frV u lo A l.length c, .int .i64 z]) (by simp [results, Try.results32, go_sem, *]) rfl ?_
 exact ⟨u, lo, l, A, c, z, rfl, HIN.out, fill_own' HR2.out (own_nbT HR2.out BR2.out (by decide)), fill_below HB2.out (Nat.le_refl _)⟩
def FrZ (S g : Nat) (x y Q R : Int) (vs : Nat → Value) (wx : World) : Nat → Prop
 | 0 => vs 22 = .int .i64 x
 | 1 => vs 23 = .int .i64 y
 | 2 => vs 24 = .int .i64 x
 | 3 => vs 25 = .int .i64 y
 | 4 => vs 26 = .int .i64 Q
 | 5 => vs 27 = .pointer (some ⟨g, 0, none⟩)
 | 6 => ∃ (x8 : Nat), vs 28 = .slice (some ⟨x8, 0, none⟩) 5 5 ∧ (S ≤ x8) ∧ (Blk wx x8 3 #[.int .i64 0, .int .i64 0, .int .i64 0, .int .i64 1, .int .i64 (-1)])
 | 7 => ∃ (p : Int), vs 29 = .int .i64 p ∧ (-1 ≤ p) ∧ (p ≤ 1)
 | 8 => ∃ (s1 : Int), vs 30 = .int .i64 s1
 | 9 => vs 31 = .int .i64 x
 | 10 => vs 32 = .int .i64 y
 | 11 => vs 33 = .int .i64 R
 | 12 => vs 34 = .pointer (some ⟨g, 0, none⟩)
 | 13 => vs 35 = .int .i64 y
 | 14 => ∃ (x9 : Nat), vs 36 = .slice (some ⟨x9, 0, none⟩) 6 6 ∧ (S ≤ x9) ∧ (Blk wx x9 3 #[.int .i64 0, .int .i64 0, .int .i64 0, .int .i64 1, .int .i64 y, .int .i64 (-1)])
 | 15 => ∃ (r : Int), vs 37 = .int .i64 r ∧ (-1 ≤ r) ∧ (r ≤ 10000)
 | 16 => ∃ (s2 : Int), vs 38 = .int .i64 s2
 | 17 => vs 2 = .int .i64 x
 | 18 => vs 3 = .int .i64 y
 | 19 => ∃ (s1 : Int), vs 4 = .int .i64 s1
 | 20 => ∃ (s2 : Int), vs 5 = .int .i64 s2
 | _ => True
def FrZU : Nat → List Nat
 | 0 => [22]
 | 1 => [23]
 | 2 => [24]
 | 3 => [25]
 | 4 => [26]
 | 5 => [27]
 | 6 => [28]
 | 7 => [29]
 | 8 => [30]
 | 9 => [31]
 | 10 => [32]
 | 11 => [33]
 | 12 => [34]
 | 13 => [35]
 | 14 => [36]
 | 15 => [37]
 | 16 => [38]
 | 17 => [2]
 | 18 => [3]
 | 19 => [4]
 | 20 => [5]
 | _ => []
def FrZR (g : Nat) (x y Q R : Int) (i : Nat) (wx wy : World) : Prop := Gr g wx wy
theorem FrZ_gr {S g : Nat} {x y Q R : Int} (hgS : g < S) {vs us : Nat → Value} {wx wy : World} {jN : Nat} (hGG : FrZ S g x y Q R vs wx jN) (haG : ∀ d ∈ FrZU jN, us d = vs d) (hbG : Gr g wx wy) : FrZ S g x y Q R us wy jN := by
 match jN, hGG, haG with
 | 0, hGG, haG =>
   exact (haG 22 (by simp [FrZU])).trans hGG
 | 1, hGG, haG =>
   exact (haG 23 (by simp [FrZU])).trans hGG
 | 2, hGG, haG =>
   exact (haG 24 (by simp [FrZU])).trans hGG
 | 3, hGG, haG =>
   exact (haG 25 (by simp [FrZU])).trans hGG
 | 4, hGG, haG =>
   exact (haG 26 (by simp [FrZU])).trans hGG
 | 5, hGG, haG =>
   exact (haG 27 (by simp [FrZU])).trans hGG
 | 6, hGG, haG =>
   obtain ⟨xG0, eG, fG0, fG1⟩ := hGG
   exact ⟨xG0, (haG 28 (by simp [FrZU])).trans eG, fG0, fG1.gr hbG (by omega)⟩
 | 7, hGG, haG =>
   obtain ⟨xG0, eG, fG0, fG1⟩ := hGG
   exact ⟨xG0, (haG 29 (by simp [FrZU])).trans eG, fG0, fG1⟩
 | 8, hGG, haG =>
   obtain ⟨xG0, eG⟩ := hGG
   exact ⟨xG0, (haG 30 (by simp [FrZU])).trans eG⟩
 | 9, hGG, haG =>
   exact (haG 31 (by simp [FrZU])).trans hGG
 | 10, hGG, haG =>
   exact (haG 32 (by simp [FrZU])).trans hGG
 | 11, hGG, haG =>
   exact (haG 33 (by simp [FrZU])).trans hGG
 | 12, hGG, haG =>
   exact (haG 34 (by simp [FrZU])).trans hGG
 | 13, hGG, haG =>
   exact (haG 35 (by simp [FrZU])).trans hGG
 | 14, hGG, haG =>
   obtain ⟨xG0, eG, fG0, fG1⟩ := hGG
   exact ⟨xG0, (haG 36 (by simp [FrZU])).trans eG, fG0, fG1.gr hbG (by omega)⟩
 | 15, hGG, haG =>
   obtain ⟨xG0, eG, fG0, fG1⟩ := hGG
   exact ⟨xG0, (haG 37 (by simp [FrZU])).trans eG, fG0, fG1⟩
 | 16, hGG, haG =>
   obtain ⟨xG0, eG⟩ := hGG
   exact ⟨xG0, (haG 38 (by simp [FrZU])).trans eG⟩
 | 17, hGG, haG =>
   exact (haG 2 (by simp [FrZU])).trans hGG
 | 18, hGG, haG =>
   exact (haG 3 (by simp [FrZU])).trans hGG
 | 19, hGG, haG =>
   obtain ⟨xG0, eG⟩ := hGG
   exact ⟨xG0, (haG 4 (by simp [FrZU])).trans eG⟩
 | 20, hGG, haG =>
   obtain ⟨xG0, eG⟩ := hGG
   exact ⟨xG0, (haG 5 (by simp [FrZU])).trans eG⟩
 | jN + 21, _, _ => trivial
def FrZP (j i : Nat) : Bool := false
theorem FrZ_keep {S g : Nat} {x y Q R : Int} (hgS : g < S) {vs us : Nat → Value} {wx wy : World} {iN jN : Nat} (hneG : iN ≠ jN) (hdpG : FrZP jN iN = false) (hGG : FrZ S g x y Q R vs wx jN) (haG : ∀ d ∈ FrZU jN, us d = vs d) (hbG : FrZR g x y Q R iN wx wy) : FrZ S g x y Q R us wy jN := by
 unfold FrZR at hbG
 exact FrZ_gr hgS hGG haG hbG
def DCheck (w : World) (e : Ending) (w' : World) : Prop := ∃ x y z u : Int, e = .returned (.tuple #[.int .i64 x, .int .i64 y, .int .i64 z, .int .i64 u]) ∧ Below w.heap.size w w'
set_option maxRecDepth 100000 in
set_option maxHeartbeats 8000000 in
theorem drawCheckDivision_any (Ac : Option Addr) (nc cc : Nat) (w : World) (h : Code w w.heap.size Ac nc) (hn : nc ≤ 65536) : Calls Try.prog 35 #[.slice Ac nc cc] w (DCheck w) := by
 have HC0 := Lib.hid (cur0D h hn cc)
 have hbx := Lib.hid (ext_alloc (ext_refl w) (.cells #[.slice Ac nc cc, .int .i64 0, .int .u64 0] 67))
 obtain ⟨g, hg⟩ : ∃ g, g = w.heap.size := ⟨_, rfl⟩
 rw [← hg] at HC0
 have hwg : w.heap.size ≤ g := by omega
 clear h
 go_enter Try.func35, Try.ntmps35
 go_wp2_with fail
 rw [← hg]
 clear hg
 refine (dividend_any g 0 _ HC0.out (by omega)).mono ?_
 rintro e w1 ⟨x, a1, rfl, x0, x1, ha1, hc1, hg1⟩
 have HC1 := Lib.hid hc1
 have HB1 := Lib.hid (Gr.below hbx.out hg1 hwg)
 clear hc1 hg1
 go_wp2_with fail
 refine (divisor_any g a1 _ HC1.out (by omega)).mono ?_
 rintro e w2 ⟨y, a2, rfl, y0, y1, ha2, hc2, hg2⟩
 have HC2 := Lib.hid hc2
 have HB2 := Lib.hid (Gr.below HB1.out hg2 hwg)
 clear hc2 hg2
 obtain ⟨ok, hok⟩ : ∃ ok, dvB x y = ok := ⟨_, rfl⟩
 have HD := Lib.hid (fun w => l10Asked_b x y ok w hok)
 go_wp2_with fail
 refine (HD.out _).mono ?_
 rintro e w3 ⟨rfl, hb3⟩
 have HC3 := Lib.hid (HC2.out.ext hb3)
 have HB3 := Lib.hid (ext_trans HB2.out hb3)
 clear hb3 HC2 HB2 HC1 HB1 HC0 hbx HD
 cases ok
 · clear hok
   go_wp2
   refine bodyPost_ret (v := .tuple #[.int .i64 x, .int .i64 y, .int .i64 5, .int .i64 1]) (by simp [results, Try.results35, go_sem, *]) rfl ⟨x, y, 5, 1, rfl, HB3.out⟩
 · unfold dvB at hok
   simp only [Bool.and_eq_true] at hok
   have hx := inB_iff.1 hok.1
   have hy := inB_iff.1 hok.2
   have hgS : g < w3.heap.size := HC3.out.lt
   obtain ⟨Q, hQ⟩ : ∃ Q, x / y = Q := ⟨_, rfl⟩
   obtain ⟨R, hR⟩ : ∃ R, x % y = R := ⟨_, rfl⟩
   have hQ0 : 0 ≤ Q := by rw [← hQ]; exact Int.ediv_nonneg hx.1 (by omega)
   have hQ1 : Q ≤ x := by rw [← hQ]; exact Int.ediv_le_self _ hx.1
   have hR0 : 0 ≤ R ∧ R < y := by rw [← hR]; exact ⟨Int.emod_nonneg _ (by omega), Int.emod_lt_of_pos _ (by omega)⟩
   have HQ := Lib.hid (show x.tdiv y = Q ∧ x.tmod y = R ∧ (0 ≤ Q ∧ Q ≤ 100000000 ∧ 0 ≤ R ∧ R ≤ 10000) from ⟨by rw [← hQ]; exact Int.tdiv_eq_ediv_of_nonneg hx.1, by rw [← hR]; exact Int.tmod_eq_emod_of_nonneg hx.1, hQ0, by omega, hR0.1, by omega⟩)
   have HLB := Lib.hid (show ∀ z ∈ [0, 0, 0, 1, y, -1], (-1 : Int) ≤ z ∧ z ≤ 10000 by intro z hz; simp only [List.mem_cons, List.not_mem_nil, or_false] at hz; omega)
   have hd0 : y ≠ 0 := by omega
   have hRb : 0 ≤ R ∧ R ≤ 10000 := by omega
   have hQb : 0 ≤ Q ∧ Q ≤ 100000000 := by omega
   have ha3 : a2 ≤ 10 := by omega
   obtain ⟨a3, ha3e⟩ : ∃ a3, a2 = a3 := ⟨_, rfl⟩
   rw [ha3e] at HC3 ha3
   clear hok hx hQ hR hQ0 hQ1 hR0 ha3e
   go_upto_region 5 with fail
   refine wp_region_m (by kernel_rfl) (by kernel_rfl) [2, 3, 4, 5, 22, 23, 24, 25, 26, 27, 28, 29, 30, 31, 32, 33, 34, 35, 36, 37, 38] FrZU (by kernel_rfl) (by decide) 39 (by kernel_rfl) (by simp) (fun ra0 => ra0.eval (.tmp 6) = .pointer (some ⟨g, 0, none⟩) ∧ ra0.eval (.tmp 7) = .int .i64 x ∧ ra0.eval (.tmp 8) = .int .i64 y) ⟨by kernel_rfl, by kernel_rfl, by kernel_rfl⟩ FrZP (by kernel_rfl) (ICur 10 g a3 w3 w3 99 99 (fun wx => True)) (FrZR g x y Q R) (fun jN vs wx => FrZ w3.heap.size g x y Q R vs wx jN) ⟨a3, by omega, (HC3.out).ext (ext_drew (ext_refl _)), ((Gr.refl g w3)).trans (Gr.of_ext (ext_drew (ext_refl _))), Nat.le_refl _, fun _ => Gr.of_ext (ext_drew (ext_refl _)), fun _ => trivial⟩ (fun _ _ _ _ _ _ h0 hd h1 h2 h3 => FrZ_keep hgS h0 hd h1 h2 h3) ?_ ?_
   · intro ra0 hE ri ro ho Qx vs wx rb KX kk rL hI hkk hnl hLt hcl hdep rb0 rbk HK
     repeat (rename_i hz9; clear hz9)
     obtain ⟨rq6, rq7, rq8⟩ := hE
     have hi : ri < 21 := by
      rcases Nat.lt_or_ge ri 21 with h | h
      · exact h
      · rw [Array.getElem?_eq_none (by simpa using h)] at ho; cases ho
     have hkk : kk < 21 := by simpa using hkk
     obtain ⟨ax, hax, hcx, hGw, hsz, hpre, hBx⟩ := hI
     have HQ : ∀ w' a2, CurAt w' g a2 → a2 ≤ ax + 10 → Gr g wx w' → ICur 10 g a3 w3 w3 99 99 (fun wx => True) (kk + 1) (fun j => j = ri ∨ rL j) w' := fun w' a2 h1 h2 h3 => ⟨a2, by omega, h1, hGw.trans h3, Nat.le_trans hsz h3.size, fun hn => (hpre (fun x => hn (.inr x))).trans h3, fun hn => (fun hB => trivial) (hBx (fun x => hn (.inr x)))⟩
     have HQX := Lib.hid HQ
     have HCX := Lib.hid hcx
     have HGW := Lib.hid hGw
     have HPRE := Lib.hid hpre
     have HBX := Lib.hid hBx
     have HCL := Lib.hid hcl
     clear HQ hcx hGw hpre hBx hcl
     rcases (show ri = 0 ∨ ri = 1 ∨ ri = 2 ∨ ri = 3 ∨ ri = 4 ∨ ri = 5 ∨ ri = 6 ∨ ri = 7 ∨ ri = 8 ∨ ri = 9 ∨ ri = 10 ∨ ri = 11 ∨ ri = 12 ∨ ri = 13 ∨ ri = 14 ∨ ri = 15 ∨ ri = 16 ∨ ri = 17 ∨ ri = 18 ∨ ri = 19 ∨ ri = 20 by omega) with rfl | rfl | rfl | rfl | rfl | rfl | rfl | rfl | rfl | rfl | rfl | rfl | rfl | rfl | rfl | rfl | rfl | rfl | rfl | rfl | rfl
     · simp only [List.getElem?_toArray, List.getElem?_cons_succ, List.getElem?_cons_zero, Option.some.injEq] at ho
       subst ho
       have HKX := Lib.hid HK
       clear HK
       have p7 := (rb0 7 (by decide)).trans rq7
       clear rb0 rbk hdep
       go_simp
       exact HKX.out _ _ (HQX.out _ ax HCX.out (by omega) (Gr.refl _ _)) (by unfold FrZR; exact Gr.refl _ _) (upd_same _ _ _)
     · simp only [List.getElem?_toArray, List.getElem?_cons_succ, List.getElem?_cons_zero, Option.some.injEq] at ho
       subst ho
       have HKX := Lib.hid HK
       clear HK
       have p8 := (rb0 8 (by decide)).trans rq8
       clear rb0 rbk hdep
       go_simp
       exact HKX.out _ _ (HQX.out _ ax HCX.out (by omega) (Gr.refl _ _)) (by unfold FrZR; exact Gr.refl _ _) (upd_same _ _ _)
     · simp only [List.getElem?_toArray, List.getElem?_cons_succ, List.getElem?_cons_zero, Option.some.injEq] at ho
       subst ho
       have HKX := Lib.hid HK
       clear HK
       have p7 := (rb0 7 (by decide)).trans rq7
       clear rb0 rbk hdep
       go_simp
       exact HKX.out _ _ (HQX.out _ ax HCX.out (by omega) (Gr.refl _ _)) (by unfold FrZR; exact Gr.refl _ _) (upd_same _ _ _)
     · simp only [List.getElem?_toArray, List.getElem?_cons_succ, List.getElem?_cons_zero, Option.some.injEq] at ho
       subst ho
       have HKX := Lib.hid HK
       clear HK
       have p8 := (rb0 8 (by decide)).trans rq8
       clear rb0 rbk hdep
       go_simp
       exact HKX.out _ _ (HQX.out _ ax HCX.out (by omega) (Gr.refl _ _)) (by unfold FrZR; exact Gr.refl _ _) (upd_same _ _ _)
     · simp only [List.getElem?_toArray, List.getElem?_cons_succ, List.getElem?_cons_zero, Option.some.injEq] at ho
       subst ho
       have HKX := Lib.hid HK
       clear HK
       have e2 : vs 24 = .int .i64 x := (hdep 2 (by kernel_rfl)).2
       have rr2 := (rbk 24 (by decide)).trans e2
       have E2 := Lib.hid e2
       clear e2
       have e3 : vs 25 = .int .i64 y := (hdep 3 (by kernel_rfl)).2
       have rr3 := (rbk 25 (by decide)).trans e3
       have E3 := Lib.hid e3
       clear e3
       clear rb0 rbk hdep
       go_simp
       (try rw [show IntKind.i64.wrap (x.tdiv y) = Q from by rw [HQ.out.1, IntKind.wrap_i64]; have h9 := HQ.out.2.2; omega])
       (try rw [HQ.out.1])
       (try go_simp)
       exact HKX.out _ _ (HQX.out _ ax HCX.out (by omega) (Gr.refl _ _)) (by unfold FrZR; exact Gr.refl _ _) (upd_same _ _ _)
     · simp only [List.getElem?_toArray, List.getElem?_cons_succ, List.getElem?_cons_zero, Option.some.injEq] at ho
       subst ho
       have HKX := Lib.hid HK
       clear HK
       have p6 := (rb0 6 (by decide)).trans rq6
       clear rb0 rbk hdep
       go_simp
       exact HKX.out _ _ (HQX.out _ ax HCX.out (by omega) (Gr.refl _ _)) (by unfold FrZR; exact Gr.refl _ _) (upd_same _ _ _)
     · simp only [List.getElem?_toArray, List.getElem?_cons_succ, List.getElem?_cons_zero, Option.some.injEq] at ho
       subst ho
       have HKX := Lib.hid HK
       clear HK
       have hSx : w3.heap.size ≤ wx.heap.size := HGW.out.size
       clear rb0 rbk hdep
       go_simp
       exact HKX.out _ _ (HQX.out _ ax (HCX.out.ext (ext_alloc (ext_refl _) _)) (by omega) (Gr.alloc _ _ _)) (by unfold FrZR; exact Gr.alloc _ _ _) ⟨wx.heap.size, upd_same _ _ _, hSx, Blk.born _ _ _ rfl⟩
     · simp only [List.getElem?_toArray, List.getElem?_cons_succ, List.getElem?_cons_zero, Option.some.injEq] at ho
       subst ho
       have HKX := Lib.hid HK
       clear HK
       have e5 : vs 27 = .pointer (some ⟨g, 0, none⟩) := (hdep 5 (by kernel_rfl)).2
       have rr5 := (rbk 27 (by decide)).trans e5
       have E5 := Lib.hid e5
       clear e5
       obtain ⟨x8, e6, k6_0, k6_1⟩ := (hdep 6 (by kernel_rfl)).2
       have rr6 := (rbk 28 (by decide)).trans e6
       have E6 := Lib.hid e6
       clear e6
       have K6_1 := Lib.hid k6_1
       clear k6_1
       clear rb0 rbk hdep
       go_simp
       refine (among_any g ax _ 5 _ (-1) 1 _ HCX.out (by omega) (by decide) (by decide) (allAt_blk (l := [0, 0, 0, 1, -1]) K6_1.out rfl rfl (by omega) (by decide))).mono ?_
       rintro e w' ⟨p, a2, rfl, nF0, nF1, ha2, hc2, hg2⟩
       go_simp
       exact HKX.out _ _ (HQX.out _ a2 hc2 (by omega) hg2) (by unfold FrZR; exact hg2) (⟨p, upd_same _ _ _, nF0, nF1⟩)
     · simp only [List.getElem?_toArray, List.getElem?_cons_succ, List.getElem?_cons_zero, Option.some.injEq] at ho
       subst ho
       have HKX := Lib.hid HK
       clear HK
       have e4 : vs 26 = .int .i64 Q := (hdep 4 (by kernel_rfl)).2
       have rr4 := (rbk 26 (by decide)).trans e4
       have E4 := Lib.hid e4
       clear e4
       obtain ⟨p, e7, k7_0, k7_1⟩ := (hdep 7 (by kernel_rfl)).2
       have rr7 := (rbk 29 (by decide)).trans e7
       have E7 := Lib.hid e7
       clear e7
       clear rb0 rbk hdep
       go_simp
       (try rw [show IntKind.i64.wrap (Q + p) = Q + p from by rw [IntKind.wrap_i64]; have h9 := HQ.out.2.2; omega])
       obtain ⟨s1, hs1⟩ : ∃ s1, Q + p = s1 := ⟨_, rfl⟩
       rw [hs1]
       exact HKX.out _ _ (HQX.out _ ax HCX.out (by omega) (Gr.refl _ _)) (by unfold FrZR; exact Gr.refl _ _) (⟨s1, upd_same _ _ _⟩)
     · simp only [List.getElem?_toArray, List.getElem?_cons_succ, List.getElem?_cons_zero, Option.some.injEq] at ho
       subst ho
       have HKX := Lib.hid HK
       clear HK
       have p7 := (rb0 7 (by decide)).trans rq7
       clear rb0 rbk hdep
       go_simp
       exact HKX.out _ _ (HQX.out _ ax HCX.out (by omega) (Gr.refl _ _)) (by unfold FrZR; exact Gr.refl _ _) (upd_same _ _ _)
     · simp only [List.getElem?_toArray, List.getElem?_cons_succ, List.getElem?_cons_zero, Option.some.injEq] at ho
       subst ho
       have HKX := Lib.hid HK
       clear HK
       have p8 := (rb0 8 (by decide)).trans rq8
       clear rb0 rbk hdep
       go_simp
       exact HKX.out _ _ (HQX.out _ ax HCX.out (by omega) (Gr.refl _ _)) (by unfold FrZR; exact Gr.refl _ _) (upd_same _ _ _)
     · simp only [List.getElem?_toArray, List.getElem?_cons_succ, List.getElem?_cons_zero, Option.some.injEq] at ho
       subst ho
       have HKX := Lib.hid HK
       clear HK
       have e9 : vs 31 = .int .i64 x := (hdep 9 (by kernel_rfl)).2
       have rr9 := (rbk 31 (by decide)).trans e9
       have E9 := Lib.hid e9
       clear e9
       have e10 : vs 32 = .int .i64 y := (hdep 10 (by kernel_rfl)).2
       have rr10 := (rbk 32 (by decide)).trans e10
       have E10 := Lib.hid e10
       clear e10
       clear rb0 rbk hdep
       go_simp
       (try rw [HQ.out.2.1])
       (try go_simp)
       exact HKX.out _ _ (HQX.out _ ax HCX.out (by omega) (Gr.refl _ _)) (by unfold FrZR; exact Gr.refl _ _) (upd_same _ _ _)
     · simp only [List.getElem?_toArray, List.getElem?_cons_succ, List.getElem?_cons_zero, Option.some.injEq] at ho
       subst ho
       have HKX := Lib.hid HK
       clear HK
       have p6 := (rb0 6 (by decide)).trans rq6
       clear rb0 rbk hdep
       go_simp
       exact HKX.out _ _ (HQX.out _ ax HCX.out (by omega) (Gr.refl _ _)) (by unfold FrZR; exact Gr.refl _ _) (upd_same _ _ _)
     · simp only [List.getElem?_toArray, List.getElem?_cons_succ, List.getElem?_cons_zero, Option.some.injEq] at ho
       subst ho
       have HKX := Lib.hid HK
       clear HK
       have p8 := (rb0 8 (by decide)).trans rq8
       clear rb0 rbk hdep
       go_simp
       exact HKX.out _ _ (HQX.out _ ax HCX.out (by omega) (Gr.refl _ _)) (by unfold FrZR; exact Gr.refl _ _) (upd_same _ _ _)
     · simp only [List.getElem?_toArray, List.getElem?_cons_succ, List.getElem?_cons_zero, Option.some.injEq] at ho
       subst ho
       have HKX := Lib.hid HK
       clear HK
       have e13 : vs 35 = .int .i64 y := (hdep 13 (by kernel_rfl)).2
       have rr13 := (rbk 35 (by decide)).trans e13
       have E13 := Lib.hid e13
       clear e13
       have hSx : w3.heap.size ≤ wx.heap.size := HGW.out.size
       clear rb0 rbk hdep
       go_simp
       exact HKX.out _ _ (HQX.out _ ax (HCX.out.ext (ext_alloc (ext_refl _) _)) (by omega) (Gr.alloc _ _ _)) (by unfold FrZR; exact Gr.alloc _ _ _) ⟨wx.heap.size, upd_same _ _ _, hSx, Blk.born _ _ _ rfl⟩
     · simp only [List.getElem?_toArray, List.getElem?_cons_succ, List.getElem?_cons_zero, Option.some.injEq] at ho
       subst ho
       have HKX := Lib.hid HK
       clear HK
       have e12 : vs 34 = .pointer (some ⟨g, 0, none⟩) := (hdep 12 (by kernel_rfl)).2
       have rr12 := (rbk 34 (by decide)).trans e12
       have E12 := Lib.hid e12
       clear e12
       obtain ⟨x9, e14, k14_0, k14_1⟩ := (hdep 14 (by kernel_rfl)).2
       have rr14 := (rbk 36 (by decide)).trans e14
       have E14 := Lib.hid e14
       clear e14
       have K14_1 := Lib.hid k14_1
       clear k14_1
       obtain ⟨p, e7, k7_0, k7_1⟩ := (hdep 7 (by kernel_rfl)).2
       have rr7 := (rbk 29 (by decide)).trans e7
       have E7 := Lib.hid e7
       clear e7
       clear rb0 rbk hdep
       go_simp
       refine (among_any g ax _ 6 _ (-1) 10000 _ HCX.out (by omega) (by decide) (by decide) (allAt_blk (l := [0, 0, 0, 1, y, -1]) K14_1.out rfl rfl (by omega) HLB.out)).mono ?_
       rintro e w' ⟨r, a2, rfl, nF0, nF1, ha2, hc2, hg2⟩
       go_simp
       exact HKX.out _ _ (HQX.out _ a2 hc2 (by omega) hg2) (by unfold FrZR; exact hg2) (⟨r, upd_same _ _ _, nF0, nF1⟩)
     · simp only [List.getElem?_toArray, List.getElem?_cons_succ, List.getElem?_cons_zero, Option.some.injEq] at ho
       subst ho
       have HKX := Lib.hid HK
       clear HK
       have e11 : vs 33 = .int .i64 R := (hdep 11 (by kernel_rfl)).2
       have rr11 := (rbk 33 (by decide)).trans e11
       have E11 := Lib.hid e11
       clear e11
       obtain ⟨r, e15, k15_0, k15_1⟩ := (hdep 15 (by kernel_rfl)).2
       have rr15 := (rbk 37 (by decide)).trans e15
       have E15 := Lib.hid e15
       clear e15
       clear rb0 rbk hdep
       go_simp
       (try rw [show IntKind.i64.wrap (R + r) = R + r from by rw [IntKind.wrap_i64]; have h9 := HQ.out.2.2; omega])
       obtain ⟨s2, hs2⟩ : ∃ s2, R + r = s2 := ⟨_, rfl⟩
       rw [hs2]
       exact HKX.out _ _ (HQX.out _ ax HCX.out (by omega) (Gr.refl _ _)) (by unfold FrZR; exact Gr.refl _ _) (⟨s2, upd_same _ _ _⟩)
     · simp only [List.getElem?_toArray, List.getElem?_cons_succ, List.getElem?_cons_zero, Option.some.injEq] at ho
       subst ho
       have HKX := Lib.hid HK
       clear HK
       have e0 : vs 22 = .int .i64 x := (hdep 0 (by kernel_rfl)).2
       have rr0 := (rbk 22 (by decide)).trans e0
       have E0 := Lib.hid e0
       clear e0
       clear rb0 rbk hdep
       go_simp
       exact HKX.out _ _ (HQX.out _ ax HCX.out (by omega) (Gr.refl _ _)) (by unfold FrZR; exact Gr.refl _ _) (upd_same _ _ _)
     · simp only [List.getElem?_toArray, List.getElem?_cons_succ, List.getElem?_cons_zero, Option.some.injEq] at ho
       subst ho
       have HKX := Lib.hid HK
       clear HK
       have e1 : vs 23 = .int .i64 y := (hdep 1 (by kernel_rfl)).2
       have rr1 := (rbk 23 (by decide)).trans e1
       have E1 := Lib.hid e1
       clear e1
       clear rb0 rbk hdep
       go_simp
       exact HKX.out _ _ (HQX.out _ ax HCX.out (by omega) (Gr.refl _ _)) (by unfold FrZR; exact Gr.refl _ _) (upd_same _ _ _)
     · simp only [List.getElem?_toArray, List.getElem?_cons_succ, List.getElem?_cons_zero, Option.some.injEq] at ho
       subst ho
       have HKX := Lib.hid HK
       clear HK
       obtain ⟨s1, e8⟩ := (hdep 8 (by kernel_rfl)).2
       have rr8 := (rbk 30 (by decide)).trans e8
       have E8 := Lib.hid e8
       clear e8
       clear rb0 rbk hdep
       go_simp
       exact HKX.out _ _ (HQX.out _ ax HCX.out (by omega) (Gr.refl _ _)) (by unfold FrZR; exact Gr.refl _ _) (⟨s1, upd_same _ _ _⟩)
     · simp only [List.getElem?_toArray, List.getElem?_cons_succ, List.getElem?_cons_zero, Option.some.injEq] at ho
       subst ho
       have HKX := Lib.hid HK
       clear HK
       obtain ⟨s2, e16⟩ := (hdep 16 (by kernel_rfl)).2
       have rr16 := (rbk 38 (by decide)).trans e16
       have E16 := Lib.hid e16
       clear e16
       clear rb0 rbk hdep
       go_simp
       exact HKX.out _ _ (HQX.out _ ax HCX.out (by omega) (Gr.refl _ _)) (by unfold FrZR; exact Gr.refl _ _) (⟨s2, upd_same _ _ _⟩)
   intro vs wx kk rL hI hkk hLt hall
   obtain ⟨_, e2⟩ := hall 17 (by decide)
   obtain ⟨_, e3⟩ := hall 18 (by decide)
   obtain ⟨_, s1, e4⟩ := hall 19 (by decide)
   obtain ⟨_, s2, e5⟩ := hall 20 (by decide)
   obtain ⟨_, _, _, hg2, _, _, _⟩ := hI
   have HB4 := Lib.hid (Gr.below HB3.out hg2 hwg)
   clear hLt hall hg2
   simp only [sl]
   rw [e2, e3, e4, e5]
   clear e2 e3 e4 e5
   simp only [Act.put, List.setIfInBounds_toArray, List.set_cons_succ, List.set_cons_zero]
   go_wp2
   refine bodyPost_ret (v := .tuple #[.int .i64 x, .int .i64 y, .int .i64 s1, .int .i64 s2]) (by simp [results, Try.results35, go_sem, *]) rfl ⟨x, y, s1, s2, rfl, HB4.out⟩
end Go.Proofs.Ytnoflejomlnmfaa
