
/- The digits of a number for the rods; numbers and digits added and taken: the program's. -/
import Derived.Test.YtlkfffohjeoooaaFrE
namespace Go.Proofs.Ytlkfffohjeoooaa
open Go.RowKit
set_option linter.unusedVariables false
set_option linter.unusedSimpArgs false
/-- the digits of m for n rods, from the left -/
def digs (n : Nat) (m : Int) : List Int := (List.range n).map (dg n m)
theorem digs_len (n : Nat) (m : Int) : (digs n m).length = n := by simp [digs]
theorem digs_get {n k : Nat} (m : Int) (h : k < n) : (digs n m)[k]? = some (dg n m k) := by simp [digs, h]
/-- the last j of them, zeros before -/
def digsTo (n : Nat) (m : Int) (j : Nat) : List Int := (List.range n).map fun i => if n - j ≤ i then dg n m i else 0
theorem digsTo_zero (n : Nat) (m : Int) : digsTo n m 0 = List.replicate n 0 := by
  apply List.ext_getElem?
  intro i
  unfold digsTo
  by_cases h : i < n
  · have : ¬ n ≤ i := by omega
    simp [List.getElem?_replicate, h]; omega
  · simp [List.getElem?_replicate, h]
theorem digsTo_all (n : Nat) (m : Int) : digsTo n m n = digs n m := by
  unfold digsTo digs
  exact List.map_congr_left fun i _ => by simp
theorem digsTo_set {n j : Nat} (m : Int) (h : j < n) : (digsTo n m j).set (n - 1 - j) (dg n m (n - 1 - j)) = digsTo n m (j + 1) := by
  apply List.ext_getElem?
  intro i
  unfold digsTo
  rw [List.getElem?_set]
  by_cases e : n - 1 - j = i
  · subst e
    have h1 : n - (j + 1) ≤ n - 1 - j := by omega
    have h2 : n - 1 - j < n := by omega
    simp [h2, h1]
    intro h5
    omega
  · rw [if_neg e]
    by_cases hi : i < n
    · simp only [List.getElem?_map, List.getElem?_range hi, Option.map_some]
      congr 1
      by_cases h3 : n - j ≤ i
      · rw [if_pos h3, if_pos (by omega)]
      · rw [if_neg h3, if_neg (by omega)]
    · simp [hi]
theorem digsTo_len (n : Nat) (m : Int) (j : Nat) : (digsTo n m j).length = n := by simp [digsTo]
theorem intsV_set (zs : List Int) (k : Nat) (z : Int) : intsV (zs.set k z) = (intsV zs).set k (.int .i64 z) := by simp [intsV, List.map_set]
theorem intsV_len (zs : List Int) : (intsV zs).length = zs.length := by simp [intsV]
theorem dg_last {n j : Nat} (m : Int) (h : j < n) : dg n m (n - 1 - j) = m / pw j % 10 := by
  unfold dg
  rw [show n - (n - 1 - j + 1) = j by omega]
theorem div_pw {m : Int} (j : Nat) : m / pw (j + 1) = m / pw j / 10 := by
  have hp := pw_pos j
  rw [pw_succ, Int.mul_comm, ← Int.ediv_ediv_of_nonneg (by omega)]
theorem made_ints (n : Nat) : (madeCells (Value.int .i64 0).cells (n * 1)).toList = intsV (List.replicate n 0) := by
  rw [Nat.mul_one, show (Value.int .i64 0).cells = #[.int .i64 0] from rfl, toList_madeCells_one]
  simp [intsV]
theorem power_at (z : Int) (n : Nat) (w : World) (hz : z = n) (hn : n ≤ 8) : Calls Try.prog 165 #[.int .i64 z] w fun e w' => e = .returned (.int .i64 (pw n)) ∧ w = w' := by
  subst hz
  exact power_any n w hn
theorem info_int : (Try.prog.info? 3).map (fun i => (i.zero, i.size, i.bytes)) = some (some (.int .i64 0), 1, 8) := by kernel_rfl
set_option maxRecDepth 100000 in
set_option maxHeartbeats 1000000 in
theorem digitsFor_any (u lo : Int) (A : Option Addr) (n c : Nat) (m : Int) (w : World) (hn : n ≤ 8) (m0 : 0 ≤ m) (m1 : m < 200000000) :
    Calls Try.prog 140 #[frV u lo A n c, .int .i64 m] w (RetSlice w 3 1 n (intsV (digs n m))) := by
  obtain ⟨i0, hi, hz0, hz1, hz2⟩ := info_parts info_int
  go_enter Try.func140, Try.ntmps140
  go_wp2_with (at_make; refine wpList_make_full _ rfl _ _ 40 rfl (w.heap.size + 1) 3 i0 _ 1 Try.underlying40 hi hz0 hz1 .i64 .i64 _ _ n rfl rfl rfl rfl (by rw [hz2]; omega) (by unfold maxLen; omega) (by simp) ?_; intro w0 hown0 hgrow0)
  rw [made_ints] at hown0
  have hs0 := (hown0.lt _ rfl).2
  simp at hs0
  have hb0 := Lib.hid ((ext_alloc (ext_refl w) (.cells #[.int .i64 u, .int .i64 lo, .slice A n c] 29)).grown hgrow0 (by simp) (fun _ h => by cases h))
  have ho0 := Lib.hid (show w0.ownsRow w.heap.size 3 1 (.slice (some ⟨w.heap.size + 1, 0, none⟩) n n) n (intsV (digsTo n m 0)) by rw [digsTo_zero]; rw [World.size_alloc] at hown0; exact own_base hown0 (Nat.le_succ _))
  clear hown0 hgrow0
  go_loopw [1, 6] (fun v i wr => ∃ (j : Nat) (z : Int), j ≤ n ∧ i = .int .i64 z ∧ z = (n : Int) - 1 - j ∧ v = .int .i64 (m / pw j) ∧ Hid (wr.ownsRow w.heap.size 3 1 (.slice (some ⟨w.heap.size + 1, 0, none⟩) n n) n (intsV (digsTo n m j))) ∧ Hid (Below w.heap.size w wr) ∧ w.heap.size + 1 < wr.heap.size) (fun _ i _ => (intOf i + 1).toNat)
  case atStart => exact ⟨0, _, Nat.zero_le _, rfl, by omega, by simp [pw_zero], ho0, hb0, by omega⟩
  case round =>
    obtain ⟨j, z, hj, rfl, hz, rfl, hor, hbr, hsr⟩ := hrel
    have hd0 : 0 ≤ m / pw j := Int.ediv_nonneg m0 (by have := pw_pos j; omega)
    have hd1 : m / pw j ≤ m := Int.ediv_le_self _ m0
    by_cases hlt : j < n
    · obtain ⟨k, hk⟩ : ∃ k : Nat, k = n - 1 - j := ⟨_, rfl⟩
      have hzk : z = (k : Int) := by omega
      have hkn : k < n := by omega
      subst hzk
      have hset := Lib.hid (digsTo_set (n := n) (j := j) m hlt)
      rw [← hk] at hset
      have hlast := Lib.hid (dg_last (n := n) m hlt)
      rw [← hk] at hlast
      have hdiv := Lib.hid (div_pw (m := m) j)
      obtain ⟨y, hy⟩ := list_split (l := digsTo n m j) (k := k) (by rw [digsTo_len]; exact hkn)
      have hcell : wr.cell? ⟨w.heap.size + 1, k, none⟩ = some (.int .i64 y) := by
        have := hor.out.cells rfl k (.int .i64 y) (intsV_get hy)
        rw [add_flat, Nat.zero_add] at this
        exact this
      have hfz := own_frozen hor.out k
      have HK := Lib.hid hk
      clear hy hk hz
      generalize m / pw j = M at *
      go_wp2
      go_roundw
      case rel =>
        refine ⟨j + 1, (k : Int) - 1, by omega, by go_num, by have := HK.out; omega, by rw [hdiv.out], Lib.hid ?_, Lib.hid (hbr.out.setCell (p := ⟨w.heap.size + 1, k, none⟩) (by show w.heap.size ≤ w.heap.size + 1; omega) _), by simpa [World.setCell] using hsr⟩
        have := (hor.out.stored k (.int .i64 (dg n m k))).1
        rw [← intsV_set, hset.out, hlast.out] at this
        exact this
      case measure => simp [intOf]
    · obtain rfl : j = n := by omega
      have hz' : z = -1 := by omega
      subst hz'
      have hall := Lib.hid (digsTo_all j m)
      clear hz
      go_wp2
      go_ret
      exact ⟨_, _, rfl, by rw [← hall.out]; exact hor.out, hbr.out⟩
theorem placeValue_any (u lo : Int) (A : Option Addr) (n c r : Nat) (d : Int) (w : World) (hn : n ≤ 8) (hr : r < n) (d0 : 0 ≤ d) (d9 : d ≤ 9) :
    Calls Try.prog 190 #[frV u lo A n c, .int .i64 (r : Int), .int .i64 d] w fun e w' => e = .returned (.int .i64 (d * pw (n - (r + 1)))) ∧ Below w.heap.size w w' := by
  have hp0 := pw_pos (n - (r + 1))
  have hp1 := pw_lt (n := n - (r + 1)) (by omega)
  have q0 : 0 ≤ d * pw (n - (r + 1)) := Int.mul_nonneg d0 (by omega)
  have q1 : d * pw (n - (r + 1)) ≤ 9 * 100000000 := Int.mul_le_mul d9 hp1 (by omega) (by omega)
  go_enter Try.func190, Try.ntmps190
  go_wp2_with (go_at_call 165; refine (power_at _ (n - (r + 1)) _ (by omega) (by omega)).mono ?_; rintro e w' ⟨rfl, rfl⟩)
  go_ret
  exact ⟨rfl, ext_alloc (ext_refl _) _⟩
/-- what can be taken -/
def canTB (l : List R2) (m : Int) : Bool := inB m 0 (numR l)
theorem canAdd_nonneg {l : List R2} {m : Int} (h : canB l m = true) : 0 ≤ m := by
  simp only [canB, Bool.and_eq_true, inB_iff] at h; exact h.1.1
theorem canAdd_bound {u lo : Int} {l : List R2} {m : Int} (hf : frB u lo l = true) (h : canB l m = true) : m < 200000000 := by
  simp only [canB, Bool.and_eq_true, inB_iff] at h
  have := pw_lt (frB_head hf).2.2.2
  omega
theorem canAdd_fit {l : List R2} {m : Int} (h : canB l m = true) : numD (dsOf l) + m < pw (dsOf l).length := by
  simp only [canB, Bool.and_eq_true, inB_iff] at h
  rw [dsOf_len]
  have : numR l = numD (dsOf l) := rfl
  omega
theorem canTake_nonneg {l : List R2} {m : Int} (h : canTB l m = true) : 0 ≤ m := by
  simp only [canTB, inB_iff] at h; exact h.1
theorem canTake_bound {u lo : Int} {l : List R2} {m : Int} (hf : frB u lo l = true) (h : canTB l m = true) : m < 200000000 := by
  simp only [canTB, inB_iff] at h
  have := numR_bounds hf l.length
  rw [numR_all l _ (Nat.le_refl _)] at this
  omega
theorem canTake_fit {l : List R2} {m : Int} (h : canTB l m = true) : m ≤ numD (dsOf l) := by
  simp only [canTB, inB_iff] at h; exact h.2
theorem addS_ask : ∀ (r : Nat) (d : Int) (s : WS), s.ask ≤ (addS r d s).ask ∧ (addS r d s).ask ≤ s.ask + r := by
  intro r
  induction r with
  | zero => intro d s; simp [addS]
  | succ r ih =>
    intro d s
    by_cases h : 0 < d
    · rw [addS_pos s h]
      have := ih ((s.ds.getD r 0 + d) / 10) ⟨s.ds.set r ((s.ds.getD r 0 + d) % 10), s.ms ++ turnM r (s.ds.getD r 0) ((s.ds.getD r 0 + d) % 10), s.ask + if 0 < (s.ds.getD r 0 + d) / 10 then 1 else 0⟩
      dsimp only at this
      split at this <;> split <;> omega
    · rw [addS_none s h]; omega
theorem takeS_ask : ∀ (r : Nat) (d : Int) (s : WS), s.ask ≤ (takeS r d s).ask ∧ (takeS r d s).ask ≤ s.ask + r := by
  intro r
  induction r with
  | zero => intro d s; simp [takeS]
  | succ r ih =>
    intro d s
    by_cases h : 0 < d
    · by_cases hx : d ≤ s.ds.getD r 0
      · rw [takeS_in s h hx]; dsimp only; omega
      · rw [takeS_left s h hx]
        have := ih 1 ⟨s.ds.set r (s.ds.getD r 0 - d + 10), s.ms ++ turnM r (s.ds.getD r 0) (s.ds.getD r 0 - d + 10), s.ask + 1⟩
        dsimp only at this
        omega
    · rw [takeS_none s h]; omega
theorem addN_ask (n : Nat) (m : Int) (s : WS) (k : Nat) (hk : k ≤ 8) : s.ask ≤ (addN n m s k).ask ∧ (addN n m s k).ask ≤ s.ask + 8 * k := by
  induction k with
  | zero => simp [addN]
  | succ k ih => rw [addN]; have := ih (by omega); have := addS_ask (k + 1) (dg n m k) (addN n m s k); omega
theorem takeN_ask (n : Nat) (m : Int) (s : WS) (k : Nat) (hk : k ≤ 8) : s.ask ≤ (takeN n m s k).ask ∧ (takeN n m s k).ask ≤ s.ask + 8 * k := by
  induction k with
  | zero => simp [takeN]
  | succ k ih => rw [takeN]; have := ih (by omega); have := takeS_ask (k + 1) (dg n m k) (takeN n m s k); omega
/-- a digit that can be added, taken -/
def addDigitB (u lo : Int) (l : List R2) (rod d : Int) : Bool := goodB u lo l && inB rod 0 ((l.length : Int) - 1) && inB d 0 9 && canB l (d * pw (l.length - (rod.toNat + 1)))
def takeDigitB (u lo : Int) (l : List R2) (rod d : Int) : Bool := goodB u lo l && inB rod 0 ((l.length : Int) - 1) && inB d 0 9 && canTB l (d * pw (l.length - (rod.toNat + 1)))
theorem hasRod_b (u lo : Int) (A : Option Addr) (n c : Nat) (m : Int) (b : Bool) (w : World) (hn : n ≤ 1048576) (hb : inB m 0 ((n : Int) - 1) = b) :
    Calls Try.prog 154 #[frV u lo A n c, .int .i64 m] w fun e w' => e = .returned (.bool b) ∧ Below w.heap.size w w' := by
  subst hb
  exact hasRod_any u lo A n c m w hn
theorem within_b (n lo hi : Int) (b : Bool) (w : World) (hb : inB n lo hi = b) :
    Calls Try.prog 123 #[.int .i64 n, .int .i64 lo, .int .i64 hi] w fun e w' => e = .returned (.bool b) ∧ Below w.heap.size w w' := by
  subst hb
  exact (inB_within n lo hi w).mono fun e w' ⟨h, hw⟩ => ⟨h, by rw [← hw]; exact ext_refl _⟩
theorem canAdd_b (u lo : Int) (A : Option Addr) (n c : Nat) (l : List R2) (m : Int) (b : Bool) (w : World) (hf : frB u lo l = true) (h : Reads w w.heap.size 2 A n (rowsV2 l)) (hb : canB l m = b) :
    Calls Try.prog 189 #[frV u lo A n c, .int .i64 m] w fun e w' => e = .returned (.bool b) ∧ Below w.heap.size w w' := by
  subst hb
  exact canAdd_any u lo A n c l m w hf h
theorem canTake_b (u lo : Int) (A : Option Addr) (n c : Nat) (l : List R2) (m : Int) (b : Bool) (w : World) (hf : frB u lo l = true) (h : Reads w w.heap.size 2 A n (rowsV2 l)) (hb : canTB l m = b) :
    Calls Try.prog 192 #[frV u lo A n c, .int .i64 m] w fun e w' => e = .returned (.bool b) ∧ Below w.heap.size w w' := by
  subst hb
  exact canTake_any u lo A n c l m w hf h
end Go.Proofs.Ytlkfffohjeoooaa
