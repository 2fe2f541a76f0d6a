/- A frame for a number, by the reference. -/
import Derived.Test.YtmfjaoljeildbaaVFdC
import Derived.Test.YtmfjaoljeildbaaVM4
namespace Go.Proofs.Ytmfjaoljeildbaa
open Go.RowKit
set_option linter.unusedVariables false
set_option linter.unusedSimpArgs false
def forL (n : Nat) (x : Int) (j : Nat) : List R2 := (List.range j).map fun k => rodD (dg n x k)
theorem forL_more (n : Nat) (x : Int) (j : Nat) : forL n x (j + 1) = forL n x j ++ [rodD (dg n x j)] := by unfold forL; rw [List.range_succ, List.map_append]; rfl
def RetFor (w : World) (u lo : Int) (l : List R2) (e : Ending) (w' : World) : Prop := ∃ A c, e = .returned (frV u lo A l.length c) ∧ w'.ownsRow w.heap.size 86 2 (.slice A l.length c) l.length (rowsV2 l) ∧ Below w.heap.size w w'
def FrE (S g : Nat) (N RB : Nat) (u lo x P y d : Int) (A : Option Addr) (len c k : Nat) (l : List R2) (vs : Nat → Value) (wx : World) : Nat → Prop
 | 0 => vs 21 = .pointer (some ⟨N, 2, none⟩)
 | 1 => vs 22 = .slice A len c
 | 2 => vs 23 = .int .i64 x
 | 3 => vs 24 = .int .i64 (k : Int)
 | 4 => vs 25 = .int .i64 P
 | 5 => vs 26 = .int .i64 y
 | 6 => vs 27 = .int .i64 d
 | 7 => vs 28 = .agg #[.int .i64 (d / 5), .int .i64 (d % 5)]
 | 8 => ∃ (x1 : Nat), vs 29 = .slice (some ⟨x1, 0, none⟩) 1 1 ∧ (S ≤ x1) ∧ (Value.ownBlock (.slice A len c) ≠ some x1) ∧ (Blk wx x1 86 #[.int .i64 (d / 5), .int .i64 (d % 5)])
 | 9 => ∃ (A2 : Option Addr) (c2 : Nat), vs 30 = .slice A2 (len + 1) c2 ∧ (wx.ownsRow S 86 2 (.slice A2 (len + 1) c2) (len + 1) (rowsV2 (l ++ [⟨d / 5, d % 5⟩])))
 | 10 => vs 31 = .pointer (some ⟨N, 2, none⟩)
 | 11 => ∃ (A2 : Option Addr) (c2 : Nat), (wx.ownsRow S 86 2 (.slice A2 (len + 1) c2) (len + 1) (rowsV2 (l ++ [⟨d / 5, d % 5⟩]))) ∧ (Blk wx N 26 #[.int .i64 u, .int .i64 lo, .slice A2 (len + 1) c2]) ∧ (Blk wx RB 26 #[.int .i64 0, .int .i64 0, .slice none 0 0]) ∧ (S ≤ N) ∧ (S ≤ RB)
 | _ => True
def FrEU : Nat → List Nat
 | 0 => [21]
 | 1 => [22]
 | 2 => [23]
 | 3 => [24]
 | 4 => [25]
 | 5 => [26]
 | 6 => [27]
 | 7 => [28]
 | 8 => [29]
 | 9 => [30]
 | 10 => [31]
 | 11 => []
 | _ => []
def FrER (g : Nat) (N RB : Nat) (u lo x P y d : Int) (A : Option Addr) (len c k : Nat) (l : List R2) (i : Nat) (wx wy : World) : Prop := if i = 9 then wx.grownBy wy (Value.ownBlock (.slice A len c)) else if i = 11 then KeepW 26 wx wy else Below wx.heap.size wx wy
theorem FrE_gr {S g : Nat} {N RB : Nat} {u lo x P y d : Int} {A : Option Addr} {len c k : Nat} {l : List R2} (hgS : True) {vs us : Nat → Value} {wx wy : World} {jN : Nat} (hGG : FrE S g N RB u lo x P y d A len c k l vs wx jN) (haG : ∀ d ∈ FrEU jN, us d = vs d) (hbG : Below wx.heap.size wx wy) : FrE S g N RB u lo x P y d A len c k l us wy jN := by
 match jN, hGG, haG with
 | 0, hGG, haG =>
   exact (haG 21 (by simp [FrEU])).trans hGG
 | 1, hGG, haG =>
   exact (haG 22 (by simp [FrEU])).trans hGG
 | 2, hGG, haG =>
   exact (haG 23 (by simp [FrEU])).trans hGG
 | 3, hGG, haG =>
   exact (haG 24 (by simp [FrEU])).trans hGG
 | 4, hGG, haG =>
   exact (haG 25 (by simp [FrEU])).trans hGG
 | 5, hGG, haG =>
   exact (haG 26 (by simp [FrEU])).trans hGG
 | 6, hGG, haG =>
   exact (haG 27 (by simp [FrEU])).trans hGG
 | 7, hGG, haG =>
   exact (haG 28 (by simp [FrEU])).trans hGG
 | 8, hGG, haG =>
   obtain ⟨xG0, eG, fG0, fG1, fG2⟩ := hGG
   exact ⟨xG0, (haG 29 (by simp [FrEU])).trans eG, fG0, fG1, fG2.ext hbG⟩
 | 9, hGG, haG =>
   obtain ⟨xG0, xG1, eG, fG0⟩ := hGG
   exact ⟨xG0, xG1, (haG 30 (by simp [FrEU])).trans eG, own_ext fG0 hbG⟩
 | 10, hGG, haG =>
   exact (haG 31 (by simp [FrEU])).trans hGG
 | 11, hGG, haG =>
   obtain ⟨xG0, xG1, fG0, fG1, fG2, fG3, fG4⟩ := hGG
   exact ⟨xG0, xG1, own_ext fG0 hbG, fG1.ext hbG, fG2.ext hbG, fG3, fG4⟩
 | jN + 12, _, _ => trivial
theorem FrE_9 {S g : Nat} {N RB : Nat} {u lo x P y d : Int} {A : Option Addr} {len c k : Nat} {l : List R2} (hgS : True) {vs us : Nat → Value} {wx wy : World} {jN : Nat} (hneG : jN ≠ 9 ∧ jN ≠ 11) (hGG : FrE S g N RB u lo x P y d A len c k l vs wx jN) (haG : ∀ d ∈ FrEU jN, us d = vs d) (hbG : wx.grownBy wy (Value.ownBlock (.slice A len c))) : FrE S g N RB u lo x P y d A len c k l us wy jN := by
 match jN, hGG, haG, hneG with
 | 0, hGG, haG, hneG =>
   exact (haG 21 (by simp [FrEU])).trans hGG
 | 1, hGG, haG, hneG =>
   exact (haG 22 (by simp [FrEU])).trans hGG
 | 2, hGG, haG, hneG =>
   exact (haG 23 (by simp [FrEU])).trans hGG
 | 3, hGG, haG, hneG =>
   exact (haG 24 (by simp [FrEU])).trans hGG
 | 4, hGG, haG, hneG =>
   exact (haG 25 (by simp [FrEU])).trans hGG
 | 5, hGG, haG, hneG =>
   exact (haG 26 (by simp [FrEU])).trans hGG
 | 6, hGG, haG, hneG =>
   exact (haG 27 (by simp [FrEU])).trans hGG
 | 7, hGG, haG, hneG =>
   exact (haG 28 (by simp [FrEU])).trans hGG
 | 8, hGG, haG, hneG =>
   obtain ⟨xG0, eG, fG0, fG1, fG2⟩ := hGG
   exact ⟨xG0, (haG 29 (by simp [FrEU])).trans eG, fG0, fG1, fG2.grownF hbG fG1⟩
 | 9, hGG, haG, hneG =>
   exact absurd rfl hneG.1
 | 10, hGG, haG, hneG =>
   exact (haG 31 (by simp [FrEU])).trans hGG
 | 11, hGG, haG, hneG =>
   exact absurd rfl hneG.2
 | jN + 12, _, _, _ => trivial
theorem FrE_11 {S g : Nat} {N RB : Nat} {u lo x P y d : Int} {A : Option Addr} {len c k : Nat} {l : List R2} (hgS : True) {vs us : Nat → Value} {wx wy : World} {jN : Nat} (hneG : jN ≠ 11) (hGG : FrE S g N RB u lo x P y d A len c k l vs wx jN) (haG : ∀ d ∈ FrEU jN, us d = vs d) (hbG : KeepW 26 wx wy) : FrE S g N RB u lo x P y d A len c k l us wy jN := by
 match jN, hGG, haG, hneG with
 | 0, hGG, haG, hneG =>
   exact (haG 21 (by simp [FrEU])).trans hGG
 | 1, hGG, haG, hneG =>
   exact (haG 22 (by simp [FrEU])).trans hGG
 | 2, hGG, haG, hneG =>
   exact (haG 23 (by simp [FrEU])).trans hGG
 | 3, hGG, haG, hneG =>
   exact (haG 24 (by simp [FrEU])).trans hGG
 | 4, hGG, haG, hneG =>
   exact (haG 25 (by simp [FrEU])).trans hGG
 | 5, hGG, haG, hneG =>
   exact (haG 26 (by simp [FrEU])).trans hGG
 | 6, hGG, haG, hneG =>
   exact (haG 27 (by simp [FrEU])).trans hGG
 | 7, hGG, haG, hneG =>
   exact (haG 28 (by simp [FrEU])).trans hGG
 | 8, hGG, haG, hneG =>
   obtain ⟨xG0, eG, fG0, fG1, fG2⟩ := hGG
   exact ⟨xG0, (haG 29 (by simp [FrEU])).trans eG, fG0, fG1, hbG.2.1 _ _ _ fG2 (by decide)⟩
 | 9, hGG, haG, hneG =>
   obtain ⟨xG0, xG1, eG, fG0⟩ := hGG
   exact ⟨xG0, xG1, (haG 30 (by simp [FrEU])).trans eG, hbG.own fG0 (by decide)⟩
 | 10, hGG, haG, hneG =>
   exact (haG 31 (by simp [FrEU])).trans hGG
 | 11, hGG, haG, hneG =>
   exact absurd rfl hneG
 | jN + 12, _, _, _ => trivial
def FrEP (j i : Nat) : Bool := (j == 11 && i == 9)
theorem FrE_keep {S g : Nat} {N RB : Nat} {u lo x P y d : Int} {A : Option Addr} {len c k : Nat} {l : List R2} (hgS : True) {vs us : Nat → Value} {wx wy : World} {iN jN : Nat} (hneG : iN ≠ jN) (hdpG : FrEP jN iN = false) (hGG : FrE S g N RB u lo x P y d A len c k l vs wx jN) (haG : ∀ d ∈ FrEU jN, us d = vs d) (hbG : FrER g N RB u lo x P y d A len c k l iN wx wy) : FrE S g N RB u lo x P y d A len c k l us wy jN := by
 unfold FrER at hbG
 by_cases h9 : iN = 9
 · rw [if_pos h9] at hbG
   exact FrE_9 hgS ⟨by omega, (fun e => by subst e; subst h9; cases hdpG)⟩ hGG haG hbG
 rw [if_neg h9] at hbG
 by_cases h11 : iN = 11
 · rw [if_pos h11] at hbG
   exact FrE_11 hgS (by omega) hGG haG hbG
 rw [if_neg h11] at hbG
 exact FrE_gr hgS hGG haG hbG
set_option maxRecDepth 100000 in
set_option maxHeartbeats 16000000 in
theorem l2For_any (u lo : Int) (n : Nat) (x : Int) (w : World) (hn : n ≤ 8) (hn1 : 1 ≤ n) (hx0 : 0 ≤ x) (hx1 : x ≤ 9223372036854775807) :
 Calls Try.prog 57 #[.int .i64 u, .int .i64 lo, .int .i64 (n : Int), .int .i64 x] w (RetFor w u lo (forL n x n)) := by
 obtain ⟨i0, hi0, hz0, hz1, hz2⟩ := info_parts info_rod
 have BR0 := Lib.hid (((Blk.born w #[.int .i64 0, .int .i64 0, .slice none 0 0] 26 (H := w.heap.size) rfl).al (.cells #[] 86)).al (.cells #[.int .i64 u, .int .i64 lo, .slice (some ⟨w.heap.size + 1, 0, none⟩) 0 0] 26))
 have BN0 := Lib.hid (Blk.born ((w.alloc (.cells #[.int .i64 0, .int .i64 0, .slice none 0 0] 26)).alloc (.cells #[] 86)) #[.int .i64 u, .int .i64 lo, .slice (some ⟨w.heap.size + 1, 0, none⟩) 0 0] 26 (H := w.heap.size + 1 + 1) (by simp))
 have HR0 := Lib.hid (show (((w.alloc (.cells #[.int .i64 0, .int .i64 0, .slice none 0 0] 26)).alloc (.cells #[] 86)).alloc (.cells #[.int .i64 u, .int .i64 lo, .slice (some ⟨w.heap.size + 1, 0, none⟩) 0 0] 26)).ownsRow w.heap.size 86 2 (.slice (some ⟨w.heap.size + 1, 0, none⟩) 0 0) 0 (rowsV2 (forL n x 0)) by have h1 := own_base (base' := w.heap.size) (own_lit0 (w.alloc (.cells #[.int .i64 0, .int .i64 0, .slice none 0 0] 26)) 86 2) (by simp); simpa [forL, rowsV2] using h1.alloc _)
 have HB0 := Lib.hid (ext_alloc (ext_alloc (ext_alloc (ext_refl w) (.cells #[.int .i64 0, .int .i64 0, .slice none 0 0] 26)) (.cells #[] 86)) (.cells #[.int .i64 u, .int .i64 lo, .slice (some ⟨w.heap.size + 1, 0, none⟩) 0 0] 26))
 obtain ⟨N, hN⟩ : ∃ N, N = w.heap.size + 1 + 1 := ⟨_, rfl⟩
 have hwN : w.heap.size ≤ N := by omega
 have hNR : N ≠ w.heap.size := by omega
 have hwR : w.heap.size ≤ w.heap.size := Nat.le_refl _
 go_enter Try.func57, Try.ntmps57
 go_wp2_with fail
 rw [← hN] at BN0
 rw [← hN]
 clear hN
 go_loopw [10] (fun v wr => ∃ (j c : Nat) (A : Option Addr), j ≤ n ∧ v = .int .i64 ((n : Int) - 1 - j) ∧ Hid (Below w.heap.size w wr) ∧ Hid (Blk wr N 26 #[.int .i64 u, .int .i64 lo, .slice A j c]) ∧ Hid (wr.ownsRow w.heap.size 86 2 (.slice A j c) j (rowsV2 (forL n x j))) ∧ Hid (Blk wr w.heap.size 26 #[.int .i64 0, .int .i64 0, .slice none 0 0])) (fun v _ => (intOf v + 1).toNat)
 case atStart => exact ⟨0, 0, _, Nat.zero_le _, by go_num, HB0, BN0, HR0, BR0⟩
 case round =>
  clear HB0 BN0 HR0 BR0
  obtain ⟨j, c, A, hj, rfl, HB, BN, HR, BR⟩ := hrel
  obtain ⟨W0, hW0e⟩ : ∃ y : World, y = wr := ⟨_, rfl⟩
  subst hW0e
  have hW0 := HB.out.size
  obtain ⟨d0, d1, d2⟩ := BN.out.q3
  obtain ⟨z0, z1, z2⟩ := BN.out.z3
  obtain ⟨r0, r1, r2⟩ := BR.out.q3
  obtain ⟨y0, y1, y2⟩ := BR.out.z3
  have ln := BN.out.lt
  have lr := BR.out.lt
  by_cases hlt : j < n
  · obtain ⟨k, hk⟩ : ∃ k, n = j + 1 + k := ⟨n - 1 - j, by omega⟩
    have hk8 : k ≤ 8 := by omega
    rw [show (n : Int) - 1 - j = (k : Int) by omega]
    have e1 : ¬ (k : Int) < 0 := by omega
    obtain ⟨P, hP⟩ : ∃ P, pw k = P := ⟨_, rfl⟩
    have hP1 : 1 ≤ P := by rw [← hP]; exact pw_pos k
    have HPW := Lib.hid (fun (w : World) => l2Power_any (k : Int) k w rfl hk8)
    rw [hP] at HPW
    obtain ⟨y, hy⟩ : ∃ y, x / P = y := ⟨_, rfl⟩
    have hy0 : 0 ≤ y := by rw [← hy]; exact Int.ediv_nonneg hx0 (by omega)
    have hyx : y ≤ x := by rw [← hy]; exact Int.ediv_le_self _ hx0
    obtain ⟨d, hd⟩ : ∃ d, y % 10 = d := ⟨_, rfl⟩
    have hd0 : 0 ≤ d := by omega
    have hd9 : d ≤ 9 := by omega
    have HNX := Lib.hid (show forL n x (j + 1) = forL n x j ++ [⟨d / 5, d % 5⟩] by
     rw [forL_more]
     have e : dg n x j = d := by unfold dg; rw [show n - (j + 1) = k by omega, hP, hy, hd]
     rw [e]
     rfl)
    obtain ⟨l, hl⟩ : ∃ l, forL n x j = l := ⟨_, rfl⟩
    rw [hl] at HR HNX
    have HY := Lib.hid (And.intro hy hd)
    clear hl hP hy hd
    go_upto_region 5 with fail
    refine wp_region_m (by kernel_rfl) (by kernel_rfl) [21, 22, 23, 24, 25, 26, 27, 28, 29, 30, 31] FrEU (by kernel_rfl) (by decide) 32 (by kernel_rfl) (by simp) (fun ra0 => ra0.eval (.tmp 3) = .int .i64 x ∧ ra0.eval (.tmp 9) = .pointer (some ⟨N, 0, none⟩) ∧ ra0.eval (.tmp 10) = .int .i64 (k : Int)) ⟨by kernel_rfl, by kernel_rfl, by kernel_rfl⟩ FrEP (by kernel_rfl) (IExt w W0 9 11 (fun wx => Blk wx N 26 #[.int .i64 u, .int .i64 lo, .slice A j c] ∧ Blk wx w.heap.size 26 #[.int .i64 0, .int .i64 0, .slice none 0 0])) (FrER 0 N w.heap.size u lo x P y d A j c k l) (fun jN vs wx => FrE w.heap.size 0 N w.heap.size u lo x P y d A j c k l vs wx jN) ⟨(HB.out).drew, Nat.le_refl _, fun _ => (ext_refl _).drew, fun _ => ⟨BN.out, BR.out⟩⟩ (fun _ _ _ _ _ _ h0 hd h1 h2 h3 => FrE_keep trivial h0 hd h1 h2 h3) ?_ ?_
    · intro ra0 hE ri ro ho Qx vs wx rb KX kk rL hI hkk hnl hLt hcl hdep rb0 rbk HK
      repeat (rename_i hz9; clear hz9)
      obtain ⟨rq3, rq9, rq10⟩ := hE
      have hi : ri < 12 := by
       rcases Nat.lt_or_ge ri 12 with h | h
       · exact h
       · rw [Array.getElem?_eq_none (by simpa using h)] at ho; cases ho
      have hkk : kk < 12 := by simpa using hkk
      obtain ⟨hGw, hsz, hpre, hBx⟩ := hI
      have HQ : ∀ w', Below wx.heap.size wx w' → IExt w W0 9 11 (fun wx => Blk wx N 26 #[.int .i64 u, .int .i64 lo, .slice A j c] ∧ Blk wx w.heap.size 26 #[.int .i64 0, .int .i64 0, .slice none 0 0]) (kk + 1) (fun j => j = ri ∨ rL j) w' := fun w' h3 => ⟨ext_trans hGw h3, Nat.le_trans hsz h3.size, fun hn => ext_trans (hpre (fun x => hn (.inr x))) h3, fun hn => (fun hB => ⟨hB.1.ext h3, hB.2.ext h3⟩) (hBx (fun x => hn (.inr x)))⟩
      have HQX := Lib.hid HQ
      have HGW := Lib.hid hGw
      have HPRE := Lib.hid hpre
      have HBX := Lib.hid hBx
      have HCL := Lib.hid hcl
      clear HQ hGw hpre hBx hcl
      rcases (show ri = 0 ∨ ri = 1 ∨ ri = 2 ∨ ri = 3 ∨ ri = 4 ∨ ri = 5 ∨ ri = 6 ∨ ri = 7 ∨ ri = 8 ∨ ri = 9 ∨ ri = 10 ∨ ri = 11 by omega) with rfl | rfl | rfl | rfl | rfl | rfl | rfl | rfl | rfl | rfl | rfl | rfl
      · simp only [List.getElem?_toArray, List.getElem?_cons_succ, List.getElem?_cons_zero, Option.some.injEq] at ho
        subst ho
        have HKX := Lib.hid HK
        clear HK
        have p9 := (rb0 9 (by decide)).trans rq9
        clear rb0 rbk hdep
        go_simp
        exact HKX.out _ _ (HQX.out _ (ext_refl _)) (by unfold FrER; rw [if_neg (by decide)]; rw [if_neg (by decide)]; exact ext_refl _) (upd_same _ _ _)
      · simp only [List.getElem?_toArray, List.getElem?_cons_succ, List.getElem?_cons_zero, Option.some.injEq] at ho
        subst ho
        have HKX := Lib.hid HK
        clear HK
        have e0 : vs 21 = .pointer (some ⟨N, 2, none⟩) := (hdep 0 (by kernel_rfl)).2
        have rr0 := (rbk 21 (by decide)).trans e0
        have E0 := Lib.hid e0
        clear e0
        have hNL : ¬ rL 9 := fun h => hnl (HCL.out 9 _ 1 rfl h (by kernel_rfl))
        have HGP := Lib.hid (HPRE.out hNL)
        obtain ⟨dx0, dx1, dx2⟩ := (BN.out.ext HGP.out).q3
        have lnx := (BN.out.ext HGP.out).lt
        have hSx : w.heap.size ≤ wx.heap.size := Nat.le_trans hW0 hsz
        have hNx : Value.ownBlock (.slice A j c) ≠ some wx.heap.size := fun e => absurd ((HR.out.lt _ e).2) (by omega)
        clear rb0 rbk hdep
        go_simp
        exact HKX.out _ _ (HQX.out _ (ext_refl _)) (by unfold FrER; rw [if_neg (by decide)]; rw [if_neg (by decide)]; exact ext_refl _) (upd_same _ _ _)
      · simp only [List.getElem?_toArray, List.getElem?_cons_succ, List.getElem?_cons_zero, Option.some.injEq] at ho
        subst ho
        have HKX := Lib.hid HK
        clear HK
        have p3 := (rb0 3 (by decide)).trans rq3
        clear rb0 rbk hdep
        go_simp
        exact HKX.out _ _ (HQX.out _ (ext_refl _)) (by unfold FrER; rw [if_neg (by decide)]; rw [if_neg (by decide)]; exact ext_refl _) (upd_same _ _ _)
      · simp only [List.getElem?_toArray, List.getElem?_cons_succ, List.getElem?_cons_zero, Option.some.injEq] at ho
        subst ho
        have HKX := Lib.hid HK
        clear HK
        have p10 := (rb0 10 (by decide)).trans rq10
        clear rb0 rbk hdep
        go_simp
        exact HKX.out _ _ (HQX.out _ (ext_refl _)) (by unfold FrER; rw [if_neg (by decide)]; rw [if_neg (by decide)]; exact ext_refl _) (upd_same _ _ _)
      · simp only [List.getElem?_toArray, List.getElem?_cons_succ, List.getElem?_cons_zero, Option.some.injEq] at ho
        subst ho
        have HKX := Lib.hid HK
        clear HK
        have e3 : vs 24 = .int .i64 (k : Int) := (hdep 3 (by kernel_rfl)).2
        have rr3 := (rbk 24 (by decide)).trans e3
        have E3 := Lib.hid e3
        clear e3
        clear rb0 rbk hdep
        go_simp
        refine (HPW.out _).mono ?_
        rintro e w' ⟨rfl, hw⟩
        subst hw
        have hb := ext_refl wx
        go_simp
        exact HKX.out _ _ (HQX.out _ hb) (by unfold FrER; rw [if_neg (by decide)]; rw [if_neg (by decide)]; exact hb) (upd_same _ _ _)
      · simp only [List.getElem?_toArray, List.getElem?_cons_succ, List.getElem?_cons_zero, Option.some.injEq] at ho
        subst ho
        have HKX := Lib.hid HK
        clear HK
        have e2 : vs 23 = .int .i64 x := (hdep 2 (by kernel_rfl)).2
        have rr2 := (rbk 23 (by decide)).trans e2
        have E2 := Lib.hid e2
        clear e2
        have e4 : vs 25 = .int .i64 P := (hdep 4 (by kernel_rfl)).2
        have rr4 := (rbk 25 (by decide)).trans e4
        have E4 := Lib.hid e4
        clear e4
        clear rb0 rbk hdep
        go_simp
        rw [if_neg (show ¬ P = 0 by omega), show IntKind.i64.wrap (x.tdiv P) = y from by rw [Int.tdiv_eq_ediv_of_nonneg hx0, HY.out.1, IntKind.wrap_i64]; omega]
        go_simp
        exact HKX.out _ _ (HQX.out _ (ext_refl _)) (by unfold FrER; rw [if_neg (by decide)]; rw [if_neg (by decide)]; exact ext_refl _) (upd_same _ _ _)
      · simp only [List.getElem?_toArray, List.getElem?_cons_succ, List.getElem?_cons_zero, Option.some.injEq] at ho
        subst ho
        have HKX := Lib.hid HK
        clear HK
        have e5 : vs 26 = .int .i64 y := (hdep 5 (by kernel_rfl)).2
        have rr5 := (rbk 26 (by decide)).trans e5
        have E5 := Lib.hid e5
        clear e5
        clear rb0 rbk hdep
        go_simp
        rw [show y.tmod 10 = d from by rw [Int.tmod_eq_emod_of_nonneg hy0, HY.out.2]]
        exact HKX.out _ _ (HQX.out _ (ext_refl _)) (by unfold FrER; rw [if_neg (by decide)]; rw [if_neg (by decide)]; exact ext_refl _) (upd_same _ _ _)
      · simp only [List.getElem?_toArray, List.getElem?_cons_succ, List.getElem?_cons_zero, Option.some.injEq] at ho
        subst ho
        have HKX := Lib.hid HK
        clear HK
        have e6 : vs 27 = .int .i64 d := (hdep 6 (by kernel_rfl)).2
        have rr6 := (rbk 27 (by decide)).trans e6
        have E6 := Lib.hid e6
        clear e6
        clear rb0 rbk hdep
        go_simp
        refine (l2Digit_d d _ hd0 (by omega)).mono ?_
        rintro e w' ⟨rfl, hb⟩
        go_simp
        exact HKX.out _ _ (HQX.out _ hb) (by unfold FrER; rw [if_neg (by decide)]; rw [if_neg (by decide)]; exact hb) (upd_same _ _ _)
      · simp only [List.getElem?_toArray, List.getElem?_cons_succ, List.getElem?_cons_zero, Option.some.injEq] at ho
        subst ho
        have HKX := Lib.hid HK
        clear HK
        have e7 : vs 28 = .agg #[.int .i64 (d / 5), .int .i64 (d % 5)] := (hdep 7 (by kernel_rfl)).2
        have rr7 := (rbk 28 (by decide)).trans e7
        have E7 := Lib.hid e7
        clear e7
        have hNL : ¬ rL 9 := fun h => hnl (HCL.out 9 _ 8 rfl h (by kernel_rfl))
        have HGP := Lib.hid (HPRE.out hNL)
        obtain ⟨dx0, dx1, dx2⟩ := (BN.out.ext HGP.out).q3
        have lnx := (BN.out.ext HGP.out).lt
        have hSx : w.heap.size ≤ wx.heap.size := Nat.le_trans hW0 hsz
        have hNx : Value.ownBlock (.slice A j c) ≠ some wx.heap.size := fun e => absurd ((HR.out.lt _ e).2) (by omega)
        clear rb0 rbk hdep
        go_simp
        exact HKX.out _ _ (HQX.out _ (ext_alloc (ext_refl _) _)) (by unfold FrER; rw [if_neg (by decide)]; rw [if_neg (by decide)]; exact ext_alloc (ext_refl _) _) ⟨wx.heap.size, upd_same _ _ _, hSx, hNx, Blk.born _ _ _ rfl⟩
      · simp only [List.getElem?_toArray, List.getElem?_cons_succ, List.getElem?_cons_zero, Option.some.injEq] at ho
        subst ho
        have HKX := Lib.hid HK
        clear HK
        have e1 : vs 22 = .slice A j c := (hdep 1 (by kernel_rfl)).2
        have rr1 := (rbk 22 (by decide)).trans e1
        have E1 := Lib.hid e1
        clear e1
        obtain ⟨x1, e8, k8_0, k8_1, k8_2⟩ := (hdep 8 (by kernel_rfl)).2
        have rr8 := (rbk 29 (by decide)).trans e8
        have E8 := Lib.hid e8
        clear e8
        have K8_1 := Lib.hid k8_1
        clear k8_1
        have K8_2 := Lib.hid k8_2
        clear k8_2
        have hNL : ¬ rL 9 := hnl
        have HGP := Lib.hid (HPRE.out hNL)
        obtain ⟨dx0, dx1, dx2⟩ := (BN.out.ext HGP.out).q3
        have lnx := (BN.out.ext HGP.out).lt
        have hSx : w.heap.size ≤ wx.heap.size := Nat.le_trans hW0 hsz
        have hNx : Value.ownBlock (.slice A j c) ≠ some wx.heap.size := fun e => absurd ((HR.out.lt _ e).2) (by omega)
        clear rb0 rbk hdep
        have HO := Lib.hid (own_ext HR.out HGP.out)
        have HS13 := Lib.hid (own_blk2 K8_2.out k8_0)
        refine step_appO rfl (.tmp 22) (.tmp 29) 24 rfl w.heap.size 86 i0 _ 2 16 Try.underlying24 hi0 hz0 hz1 hz2 rfl (by decide) (.slice A j c) j (rowsV2 l) ((Array.getD_eq_getD_getElem? ..).trans rr1) HO.out (some ⟨x1, 0, none⟩) 1 1 [.int .i64 (d / 5), .int .i64 (d % 5)] ((Array.getD_eq_getD_getElem? ..).trans rr8) w.heap.size HS13.out (by intro u hu; rcases List.mem_cons.1 hu with rfl | hu; rfl; rcases List.mem_cons.1 hu with rfl | hu; rfl; cases hu) (by unfold maxLen; omega) (by omega) (Nat.le_trans hW0 hsz) ?_
        intro A2 c2 w' hown hgr
        have hblk : ∀ q, Value.ownBlock (.slice A j c) = some q → w.heap.size ≤ q := fun q hq => (HO.out.lt q hq).1
        exact HKX.out _ _ ⟨below_grown' HO.out (Nat.le_refl _) HGW.out hgr, Nat.le_trans hsz hgr.size, fun hn => absurd (.inl rfl) hn, fun hn => ⟨(HBX.out (fun x => hn (.inr x))).1.grownF hgr (own_nbT HO.out (HBX.out (fun x => hn (.inr x))).1 (by decide)), (HBX.out (fun x => hn (.inr x))).2.grownF hgr (own_nbT HO.out (HBX.out (fun x => hn (.inr x))).2 (by decide))⟩⟩ (by unfold FrER; rw [if_pos rfl]; exact hgr) ⟨A2, c2, upd_same _ _ _, by have h9 := hown; rwa [show rowsV2 l ++ [Value.int .i64 (d / 5), Value.int .i64 (d % 5)] = rowsV2 (l ++ [⟨d / 5, d % 5⟩]) by simp [rowsV2, R2.cells]] at h9⟩
      · simp only [List.getElem?_toArray, List.getElem?_cons_succ, List.getElem?_cons_zero, Option.some.injEq] at ho
        subst ho
        have HKX := Lib.hid HK
        clear HK
        have p9 := (rb0 9 (by decide)).trans rq9
        clear rb0 rbk hdep
        go_simp
        exact HKX.out _ _ (HQX.out _ (ext_refl _)) (by unfold FrER; rw [if_neg (by decide)]; rw [if_neg (by decide)]; exact ext_refl _) (upd_same _ _ _)
      · simp only [List.getElem?_toArray, List.getElem?_cons_succ, List.getElem?_cons_zero, Option.some.injEq] at ho
        subst ho
        have HKX := Lib.hid HK
        clear HK
        obtain ⟨A2, c2, e9, k9_0⟩ := (hdep 9 (by kernel_rfl)).2
        have rr9 := (rbk 30 (by decide)).trans e9
        have E9 := Lib.hid e9
        clear e9
        have K9_0 := Lib.hid k9_0
        clear k9_0
        have e10 : vs 31 = .pointer (some ⟨N, 2, none⟩) := (hdep 10 (by kernel_rfl)).2
        have rr10 := (rbk 31 (by decide)).trans e10
        have E10 := Lib.hid e10
        clear e10
        have h14 := (hdep 9 (by kernel_rfl)).1
        have HBF := Lib.hid (HBX.out hnl)
        clear rb0 rbk hdep
        obtain ⟨yB0, yB1, yB2⟩ := HBF.out.1.q3
        obtain ⟨zB0, zB1, zB2⟩ := HBF.out.1.z3
        have hlN := HBF.out.1.lt
        go_simp
        exact HKX.out undef _ ⟨ext_set (p := ⟨N, 2, none⟩) HGW.out hwN _, by simpa using hsz, fun hn => (hn (.inr h14)).elim, fun hn => (hn (.inl rfl)).elim⟩ (by unfold FrER; rw [if_neg (by decide), if_pos rfl]; exact (KeepW.refl _ _).set HBF.out.1 2 _) ⟨A2, c2, own_setF (p := ⟨N, 2, none⟩) K9_0.out (own_nbT K9_0.out HBF.out.1 (by decide)) _, HBF.out.1.set_ 2 _, HBF.out.2.setF (p := ⟨N, 2, none⟩) hNR _, hwN, hwR⟩
    intro vs wx kk rL hI hkk hLt hall
    obtain ⟨_, A2, c2, hr2, hB2, hBR2, _, _⟩ := hall 11 (by decide)
    obtain ⟨hb2, _, _, _⟩ := hI
    have HR5 := Lib.hid hr2
    have BN5 := Lib.hid hB2
    have BR5 := Lib.hid hBR2
    have HB5 := Lib.hid hb2
    clear hLt hall hr2 hB2 hBR2 hb2 d0 d1 d2 z0 z1 z2 r0 r1 r2 y0 y1 y2 ln lr
    simp only [sl]
    simp only [Act.put, List.setIfInBounds_toArray, List.set_cons_succ, List.set_cons_zero]
    go_wp2
    go_roundw
    case rel => exact ⟨j + 1, c2, A2, by omega, by go_num, HB5, BN5, by rw [HNX.out]; exact HR5, BR5⟩
    case measure => first | (simp [intOf]; done) | (simp [intOf]; omega)
  · obtain rfl : j = n := by omega
    rw [show (j : Int) - 1 - j = -1 by omega]
    go_wp2
    refine bodyPost_ret (v := frV u lo A j c) (by simp [results, Try.results57, go_sem, *]) rfl ?_
    have hlen : (forL j x j).length = j := by simp [forL]
    refine ⟨A, c, by rw [hlen], ?_, fill_below HB.out (Nat.le_refl _)⟩
    rw [hlen]
    exact fill_own' HR.out (own_nbT HR.out BR.out (by decide))

end Go.Proofs.Ytmfjaoljeildbaa
