/- Frames of rods, plainly: their numbers, their digits, and what adding and taking make of them. -/
import Derived.Test.YtaghjaiaoajpiaaVM1
namespace Go.Proofs.Ytaghjaiaoajpiaa
open Go.RowKit
set_option linter.unusedVariables false
set_option linter.unusedSimpArgs false
/-- between two bounds: kept closed, so that a walk does not open it -/
def inB (n lo hi : Int) : Bool := decide (lo ≤ n ∧ n ≤ hi)
theorem inB_iff {n lo hi : Int} : inB n lo hi = true ↔ lo ≤ n ∧ n ≤ hi := by simp [inB]
theorem inB_no {n lo hi : Int} : inB n lo hi = false ↔ ¬ (lo ≤ n ∧ n ≤ hi) := by simp [inB]
/-- a power of ten -/
def pw (n : Nat) : Int := (10 : Int) ^ n
theorem pw_zero : pw 0 = 1 := rfl
theorem pw_succ (n : Nat) : pw (n + 1) = 10 * pw n := by unfold pw; rw [Int.pow_succ]; omega
theorem pw_pos (n : Nat) : 1 ≤ pw n := by
 induction n with
 | zero => decide
 | succ n ih => rw [pw_succ]; omega
theorem pw_le {m n : Nat} (h : m ≤ n) : pw m ≤ pw n := by
 obtain ⟨k, rfl⟩ := Nat.exists_eq_add_of_le h
 clear h
 induction k with
 | zero => exact Int.le_refl _
 | succ k ih => rw [show m + (k + 1) = (m + k) + 1 from rfl, pw_succ]; have := pw_pos (m + k); omega
theorem pw8 : pw 8 = 100000000 := by decide
theorem pw_lt {n : Nat} (h : n ≤ 8) : pw n ≤ 100000000 := by rw [← pw8]; exact pw_le h
/-- one place to the left: ten times as much -/
theorem pw_place {n r : Nat} (h : r < n) : pw (n - r) = 10 * pw (n - (r + 1)) := by
 rw [← pw_succ]; congr 1; omega
/-- the number that digits make -/
def numD (ds : List Int) : Int := ds.foldl (fun n d => 10 * n + d) 0
theorem numD_from (ds : List Int) : ∀ a : Int, ds.foldl (fun n d => 10 * n + d) a = a * pw ds.length + numD ds := by
 induction ds with
 | nil => intro a; simp [numD, pw_zero]
 | cons d ds ih =>
   intro a
   unfold numD
   rw [List.foldl_cons, List.foldl_cons, ih, ih, List.length_cons, pw_succ, Int.add_mul, Int.mul_assoc, Int.add_mul, Int.mul_zero, Int.zero_mul, Int.mul_left_comm a 10]
   omega
theorem numD_cons (d : Int) (ds : List Int) : numD (d :: ds) = d * pw ds.length + numD ds := by
 have := numD_from ds (10 * 0 + d)
 unfold numD at this ⊢
 rw [List.foldl_cons, this]
 simp
theorem numD_snoc (ds : List Int) (d : Int) : numD (ds ++ [d]) = 10 * numD ds + d := by simp [numD, List.foldl_append]
/-- digits indeed -/
def WF (ds : List Int) : Prop := ∀ d ∈ ds, 0 ≤ d ∧ d ≤ 9
theorem WF.get {ds : List Int} (h : WF ds) {k : Nat} {d : Int} (hd : ds[k]? = some d) : 0 ≤ d ∧ d ≤ 9 := h d (List.mem_of_getElem? hd)
theorem WF.getD {ds : List Int} (h : WF ds) (k : Nat) : 0 ≤ ds.getD k 0 ∧ ds.getD k 0 ≤ 9 := by
 rw [List.getD_eq_getElem?_getD]
 rcases e : ds[k]? with _ | d
 · simp
 · simpa using h.get e
theorem WF.set {ds : List Int} (h : WF ds) (k : Nat) {v : Int} (h0 : 0 ≤ v) (h1 : v ≤ 9) : WF (ds.set k v) := by
 intro d hd
 rcases List.mem_or_eq_of_mem_set hd with hd | rfl
 · exact h d hd
 · exact ⟨h0, h1⟩
theorem numD_bounds {ds : List Int} (h : WF ds) : 0 ≤ numD ds ∧ numD ds < pw ds.length := by
 induction ds with
 | nil => exact ⟨by decide, by decide⟩
 | cons d ds ih =>
   obtain ⟨h1, h2⟩ := ih (fun x hx => h x (List.mem_cons_of_mem _ hx))
   obtain ⟨h3, h4⟩ := h d (List.mem_cons_self ..)
   have hp := pw_pos ds.length
   rw [numD_cons, List.length_cons, pw_succ]
   have h5 : 0 ≤ d * pw ds.length := Int.mul_nonneg h3 (by omega)
   have h6 : d * pw ds.length ≤ 9 * pw ds.length := Int.mul_le_mul_of_nonneg_right h4 (by omega)
   omega
theorem numD_set (ds : List Int) : ∀ (r : Nat) (v : Int), r < ds.length → numD (ds.set r v) = numD ds + (v - ds.getD r 0) * pw (ds.length - (r + 1)) := by
 induction ds with
 | nil => intro r v h; simp at h
 | cons d ds ih =>
   intro r v h
   rcases r with _ | r
   · rw [List.set_cons_zero, numD_cons, numD_cons]
     simp [Int.sub_mul]
     omega
   · simp only [List.length_cons] at h
     rw [List.set_cons_succ, numD_cons, numD_cons, List.length_set, ih r v (by omega)]
     simp [Int.add_assoc]
/-- a worker: the digits of its frame, the moves that it made, how often the left was asked -/
structure WS where
 ds : List Int
 ms : List R3
 ask : Int
/-- the moves that make rod b of rod a -/
def mvR (rod : Int) (a b : R2) : List R3 := (if b.a - a.a = 0 then [] else [⟨rod, 0, b.a - a.a⟩]) ++ (if b.b - a.b = 0 then [] else [⟨rod, 1, b.b - a.b⟩])
theorem mvR_len (r : Int) (a b : R2) : (mvR r a b).length ≤ 2 := by unfold mvR; split <;> split <;> simp
/-- the standard rod with a digit -/
def rodD (d : Int) : R2 := ⟨d / 5, d % 5⟩
/-- the moves that turn rod r from a to b -/
def turnM (r : Nat) (a b : Int) : List R3 := mvR r (rodD a) (rodD b)
theorem turnM_len (r : Nat) (a b : Int) : (turnM r a b).length ≤ 2 := mvR_len _ _ _
/-- adding d to rod r - 1 and on to the left -/
def addS : Nat → Int → WS → WS
 | 0, _, s => s
 | r + 1, d, s => if 0 < d then addS r ((s.ds.getD r 0 + d) / 10) ⟨s.ds.set r ((s.ds.getD r 0 + d) % 10), s.ms ++ turnM r (s.ds.getD r 0) ((s.ds.getD r 0 + d) % 10), s.ask + if 0 < (s.ds.getD r 0 + d) / 10 then 1 else 0⟩ else s
/-- taking d from rod r - 1 and on to the left -/
def takeS : Nat → Int → WS → WS
 | 0, _, s => s
 | r + 1, d, s => if 0 < d then (if d ≤ s.ds.getD r 0 then ⟨s.ds.set r (s.ds.getD r 0 - d), s.ms ++ turnM r (s.ds.getD r 0) (s.ds.getD r 0 - d), s.ask⟩ else takeS r 1 ⟨s.ds.set r (s.ds.getD r 0 - d + 10), s.ms ++ turnM r (s.ds.getD r 0) (s.ds.getD r 0 - d + 10), s.ask + 1⟩) else s
theorem addS_pos {r : Nat} {d : Int} (s : WS) (h : 0 < d) : addS (r + 1) d s = addS r ((s.ds.getD r 0 + d) / 10) ⟨s.ds.set r ((s.ds.getD r 0 + d) % 10), s.ms ++ turnM r (s.ds.getD r 0) ((s.ds.getD r 0 + d) % 10), s.ask + if 0 < (s.ds.getD r 0 + d) / 10 then 1 else 0⟩ := by rw [addS, if_pos h]
theorem addS_none {r : Nat} {d : Int} (s : WS) (h : ¬ 0 < d) : addS r d s = s := by
 cases r with
 | zero => rfl
 | succ r => rw [addS, if_neg h]
theorem takeS_none {r : Nat} {d : Int} (s : WS) (h : ¬ 0 < d) : takeS r d s = s := by
 cases r with
 | zero => rfl
 | succ r => rw [takeS, if_neg h]
theorem takeS_in {r : Nat} {d : Int} (s : WS) (h : 0 < d) (hx : d ≤ s.ds.getD r 0) : takeS (r + 1) d s = ⟨s.ds.set r (s.ds.getD r 0 - d), s.ms ++ turnM r (s.ds.getD r 0) (s.ds.getD r 0 - d), s.ask⟩ := by rw [takeS, if_pos h, if_pos hx]
theorem takeS_left {r : Nat} {d : Int} (s : WS) (h : 0 < d) (hx : ¬ d ≤ s.ds.getD r 0) : takeS (r + 1) d s = takeS r 1 ⟨s.ds.set r (s.ds.getD r 0 - d + 10), s.ms ++ turnM r (s.ds.getD r 0) (s.ds.getD r 0 - d + 10), s.ask + 1⟩ := by rw [takeS, if_pos h, if_neg hx]
/-- d fits on rod r - 1 -/
def AddFit (r : Nat) (d : Int) (ds : List Int) : Prop := r ≤ ds.length ∧ 0 ≤ d ∧ d ≤ 9 ∧ WF ds ∧ numD ds + d * pw (ds.length - r) < pw ds.length
def TakeFit (r : Nat) (d : Int) (ds : List Int) : Prop := r ≤ ds.length ∧ 0 ≤ d ∧ d ≤ 9 ∧ WF ds ∧ d * pw (ds.length - r) ≤ numD ds
theorem carry_num {ds : List Int} {r : Nat} (d : Int) (hr : r < ds.length) :
 numD (ds.set r ((ds.getD r 0 + d) % 10)) + (ds.getD r 0 + d) / 10 * pw (ds.length - r) = numD ds + d * pw (ds.length - (r + 1)) := by
 rw [numD_set ds r _ hr, pw_place hr]
 generalize pw (ds.length - (r + 1)) = p
 generalize ds.getD r 0 = x
 have h1 : (x + d) * p = ((x + d) % 10 + 10 * ((x + d) / 10)) * p := by rw [Int.emod_add_mul_ediv]
 rw [Int.add_mul, Int.add_mul, Int.mul_assoc] at h1
 rw [Int.sub_mul, Int.mul_left_comm]
 omega
theorem AddFit.step {r : Nat} {d : Int} {ds : List Int} (h : AddFit (r + 1) d ds) : AddFit r ((ds.getD r 0 + d) / 10) (ds.set r ((ds.getD r 0 + d) % 10)) := by
 obtain ⟨h1, h2, h3, h4, h5⟩ := h
 have hx := h4.getD r
 refine ⟨by rw [List.length_set]; omega, by omega, by omega, h4.set r (by omega) (by omega), ?_⟩
 rw [List.length_set, carry_num d h1]
 exact h5
theorem AddFit.done {d : Int} {ds : List Int} (h : AddFit 0 d ds) : d = 0 := by
 obtain ⟨h1, h2, h3, h4, h5⟩ := h
 have hb := numD_bounds h4
 have hp := pw_pos ds.length
 rcases Int.lt_or_le 0 d with h | h
 · have : 1 * pw ds.length ≤ d * pw ds.length := Int.mul_le_mul_of_nonneg_right h (by omega)
   simp at h5
   omega
 · omega
/-- while there is something to add there is a rod -/
theorem AddFit.rod {r : Nat} {d : Int} {ds : List Int} (h : AddFit r d ds) (hd : 0 < d) : ∃ k, r = k + 1 ∧ k < ds.length := by
 rcases r with _ | k
 · have := h.done; omega
 · exact ⟨k, rfl, h.1⟩
theorem borrow_num {ds : List Int} {r : Nat} (d : Int) (hr : r < ds.length) :
 numD (ds.set r (ds.getD r 0 - d + 10)) - 1 * pw (ds.length - r) = numD ds - d * pw (ds.length - (r + 1)) := by
 rw [numD_set ds r _ hr, pw_place hr]
 generalize pw (ds.length - (r + 1)) = p
 generalize ds.getD r 0 = x
 rw [show x - d + 10 - x = 10 - d from by omega, Int.sub_mul]
 omega
theorem TakeFit.left {r : Nat} {d : Int} {ds : List Int} (h : TakeFit (r + 1) d ds) (hx : ¬ d ≤ ds.getD r 0) : TakeFit r 1 (ds.set r (ds.getD r 0 - d + 10)) := by
 obtain ⟨h1, h2, h3, h4, h5⟩ := h
 have hx' := h4.getD r
 refine ⟨by rw [List.length_set]; omega, by omega, by omega, h4.set r (by omega) (by omega), ?_⟩
 have := borrow_num (ds := ds) d h1
 rw [List.length_set]
 omega
theorem TakeFit.done {d : Int} {ds : List Int} (h : TakeFit 0 d ds) : d = 0 := by
 obtain ⟨h1, h2, h3, h4, h5⟩ := h
 have hb := numD_bounds h4
 have hp := pw_pos ds.length
 rcases Int.lt_or_le 0 d with h | h
 · have : 1 * pw ds.length ≤ d * pw ds.length := Int.mul_le_mul_of_nonneg_right h (by omega)
   simp at h5
   omega
 · omega
theorem TakeFit.rod {r : Nat} {d : Int} {ds : List Int} (h : TakeFit r d ds) (hd : 0 < d) : ∃ k, r = k + 1 ∧ k < ds.length := by
 rcases r with _ | k
 · have := h.done; omega
 · exact ⟨k, rfl, h.1⟩
theorem addS_len : ∀ (r : Nat) (d : Int) (s : WS), (addS r d s).ds.length = s.ds.length := by
 intro r
 induction r with
 | zero => intro d s; rfl
 | succ r ih =>
   intro d s
   by_cases h : 0 < d
   · rw [addS_pos s h, ih]; simp
   · rw [addS_none s h]
theorem addS_WF : ∀ (r : Nat) (d : Int) (s : WS), 0 ≤ d → WF s.ds → WF (addS r d s).ds := by
 intro r
 induction r with
 | zero => intro d s _ h; exact h
 | succ r ih =>
   intro d s h0 hw
   by_cases h : 0 < d
   · rw [addS_pos s h]
     have hx := hw.getD r
     exact ih _ _ (by omega) (hw.set r (by omega) (by omega))
   · rw [addS_none s h]; exact hw
theorem addS_num : ∀ (r : Nat) (d : Int) (s : WS), AddFit r d s.ds → numD (addS r d s).ds = numD s.ds + d * pw (s.ds.length - r) := by
 intro r
 induction r with
 | zero => intro d s h; have := h.done; subst this; simp [addS]
 | succ r ih =>
   intro d s hf
   by_cases h : 0 < d
   · rw [addS_pos s h, ih _ _ hf.step]
     show _ + _ * pw ((s.ds.set r _).length - r) = _
     rw [List.length_set]
     exact carry_num d hf.1
   · rw [addS_none s h]
     have : d = 0 := by have := hf.2.1; omega
     subst this; simp
theorem addS_msl : ∀ (r : Nat) (d : Int) (s : WS), (addS r d s).ms.length ≤ s.ms.length + 2 * r := by
 intro r
 induction r with
 | zero => intro d s; simp [addS]
 | succ r ih =>
   intro d s
   by_cases h : 0 < d
   · rw [addS_pos s h]
     refine Nat.le_trans (ih _ _) ?_
     have := turnM_len r (s.ds.getD r 0) ((s.ds.getD r 0 + d) % 10)
     simp only [List.length_append]
     omega
   · rw [addS_none s h]; omega
/-- the moves and the asking only pile up -/
theorem addS_pile : ∀ (r : Nat) (d : Int) (ds : List Int) (ms ns : List R3) (q z : Int), addS r d ⟨ds, ms ++ ns, q + z⟩ = ⟨(addS r d ⟨ds, ns, z⟩).ds, ms ++ (addS r d ⟨ds, ns, z⟩).ms, q + (addS r d ⟨ds, ns, z⟩).ask⟩ := by
 intro r
 induction r with
 | zero => intro d ds ms ns q z; rfl
 | succ r ih =>
   intro d ds ms ns q z
   by_cases h : 0 < d
   · rw [addS_pos _ h, addS_pos _ h]
     dsimp only
     rw [List.append_assoc, Int.add_assoc, ih]
   · rw [addS_none _ h, addS_none _ h]
theorem addS_pile0 (r : Nat) (d : Int) (s : WS) : addS r d s = ⟨(addS r d ⟨s.ds, [], 0⟩).ds, s.ms ++ (addS r d ⟨s.ds, [], 0⟩).ms, s.ask + (addS r d ⟨s.ds, [], 0⟩).ask⟩ := by
 have := addS_pile r d s.ds s.ms [] s.ask 0
 simpa using this
theorem takeS_len : ∀ (r : Nat) (d : Int) (s : WS), (takeS r d s).ds.length = s.ds.length := by
 intro r
 induction r with
 | zero => intro d s; rfl
 | succ r ih =>
   intro d s
   by_cases h : 0 < d
   · by_cases hx : d ≤ s.ds.getD r 0
     · rw [takeS_in s h hx]; simp
     · rw [takeS_left s h hx, ih]; simp
   · rw [takeS_none s h]
theorem takeS_WF : ∀ (r : Nat) (d : Int) (s : WS), 0 ≤ d → d ≤ 9 → WF s.ds → WF (takeS r d s).ds := by
 intro r
 induction r with
 | zero => intro d s _ _ h; exact h
 | succ r ih =>
   intro d s h0 h9 hw
   have hv := hw.getD r
   by_cases h : 0 < d
   · by_cases hx : d ≤ s.ds.getD r 0
     · rw [takeS_in s h hx]; exact hw.set r (by omega) (by omega)
     · rw [takeS_left s h hx]
       exact ih _ _ (by omega) (by omega) (hw.set r (by omega) (by omega))
   · rw [takeS_none s h]; exact hw
theorem takeS_num : ∀ (r : Nat) (d : Int) (s : WS), TakeFit r d s.ds → numD (takeS r d s).ds = numD s.ds - d * pw (s.ds.length - r) := by
 intro r
 induction r with
 | zero => intro d s h; have := h.done; subst this; simp [takeS]
 | succ r ih =>
   intro d s hf
   by_cases h : 0 < d
   · by_cases hx : d ≤ s.ds.getD r 0
     · rw [takeS_in s h hx]
       show numD (s.ds.set r _) = _
       rw [numD_set _ _ _ hf.1, show s.ds.getD r 0 - d - s.ds.getD r 0 = -d from by omega, Int.neg_mul]
       omega
     · rw [takeS_left s h hx, ih _ _ (hf.left hx)]
       show _ - _ * pw ((s.ds.set r _).length - r) = _
       rw [List.length_set]
       exact borrow_num d hf.1
   · rw [takeS_none s h]
     have : d = 0 := by have := hf.2.1; omega
     subst this; simp
theorem takeS_msl : ∀ (r : Nat) (d : Int) (s : WS), (takeS r d s).ms.length ≤ s.ms.length + 2 * r := by
 intro r
 induction r with
 | zero => intro d s; simp [takeS]
 | succ r ih =>
   intro d s
   by_cases h : 0 < d
   · by_cases hx : d ≤ s.ds.getD r 0
     · rw [takeS_in s h hx]
       have := turnM_len r (s.ds.getD r 0) (s.ds.getD r 0 - d)
       simp only [List.length_append]
       omega
     · rw [takeS_left s h hx]
       refine Nat.le_trans (ih _ _) ?_
       have := turnM_len r (s.ds.getD r 0) (s.ds.getD r 0 - d + 10)
       simp only [List.length_append]
       omega
   · rw [takeS_none s h]; omega
theorem takeS_pile : ∀ (r : Nat) (d : Int) (ds : List Int) (ms ns : List R3) (q z : Int), takeS r d ⟨ds, ms ++ ns, q + z⟩ = ⟨(takeS r d ⟨ds, ns, z⟩).ds, ms ++ (takeS r d ⟨ds, ns, z⟩).ms, q + (takeS r d ⟨ds, ns, z⟩).ask⟩ := by
 intro r
 induction r with
 | zero => intro d ds ms ns q z; rfl
 | succ r ih =>
   intro d ds ms ns q z
   by_cases h : 0 < d
   · by_cases hx : d ≤ ds.getD r 0
     · rw [takeS_in ⟨ds, ms ++ ns, q + z⟩ h hx, takeS_in ⟨ds, ns, z⟩ h hx]
       dsimp only
       rw [List.append_assoc]
     · rw [takeS_left ⟨ds, ms ++ ns, q + z⟩ h hx, takeS_left ⟨ds, ns, z⟩ h hx]
       dsimp only
       rw [List.append_assoc, Int.add_assoc, ih]
   · rw [takeS_none _ h, takeS_none _ h]
theorem takeS_pile0 (r : Nat) (d : Int) (s : WS) : takeS r d s = ⟨(takeS r d ⟨s.ds, [], 0⟩).ds, s.ms ++ (takeS r d ⟨s.ds, [], 0⟩).ms, s.ask + (takeS r d ⟨s.ds, [], 0⟩).ask⟩ := by
 have := takeS_pile r d s.ds s.ms [] s.ask 0
 simpa using this
/-- the digit of m for rod k of n -/
def dg (n : Nat) (m : Int) (k : Nat) : Int := m / pw (n - (k + 1)) % 10
theorem dg_bounds (n : Nat) (m : Int) (k : Nat) : 0 ≤ dg n m k ∧ dg n m k ≤ 9 := by unfold dg; omega
theorem dg_part {n k : Nat} (m : Int) (h : k < n) : m / pw (n - k) * pw (n - k) + dg n m k * pw (n - (k + 1)) = m / pw (n - (k + 1)) * pw (n - (k + 1)) := by
 unfold dg
 have hp := pw_pos (n - (k + 1))
 rw [pw_place h, Int.mul_comm 10, ← Int.ediv_ediv_of_nonneg (by omega)]
 generalize pw (n - (k + 1)) = p
 generalize m / p = y
 have h1 : y * p = (y % 10 + 10 * (y / 10)) * p := by rw [Int.emod_add_mul_ediv]
 rw [Int.add_mul, Int.mul_assoc] at h1
 rw [Int.mul_comm p 10, Int.mul_left_comm]
 omega
/-- the worker after the first k rods of adding m -/
def addN (n : Nat) (m : Int) (s : WS) : Nat → WS
 | 0 => s
 | k + 1 => addS (k + 1) (dg n m k) (addN n m s k)
def takeN (n : Nat) (m : Int) (s : WS) : Nat → WS
 | 0 => s
 | k + 1 => takeS (k + 1) (dg n m k) (takeN n m s k)
theorem addN_len (n : Nat) (m : Int) (s : WS) (k : Nat) : (addN n m s k).ds.length = s.ds.length := by
 induction k with
 | zero => rfl
 | succ k ih => rw [addN, addS_len, ih]
theorem addN_WF (n : Nat) (m : Int) (s : WS) (h : WF s.ds) (k : Nat) : WF (addN n m s k).ds := by
 induction k with
 | zero => exact h
 | succ k ih => rw [addN]; exact addS_WF _ _ _ (dg_bounds n m k).1 ih
theorem addN_msl (n : Nat) (m : Int) (s : WS) (k : Nat) (hk : k ≤ 8) : (addN n m s k).ms.length ≤ s.ms.length + 16 * k := by
 induction k with
 | zero => simp [addN]
 | succ k ih => rw [addN]; have := ih (by omega); have := addS_msl (k + 1) (dg n m k) (addN n m s k); omega
theorem addN_facts {m : Int} {s : WS} (hw : WF s.ds) (h0 : 0 ≤ m) (hm : numD s.ds + m < pw s.ds.length) : ∀ k, k ≤ s.ds.length →
 numD (addN s.ds.length m s k).ds = numD s.ds + m / pw (s.ds.length - k) * pw (s.ds.length - k) ∧ (k < s.ds.length → AddFit (k + 1) (dg s.ds.length m k) (addN s.ds.length m s k).ds) := by
 have hfit : ∀ k, numD (addN s.ds.length m s k).ds = numD s.ds + m / pw (s.ds.length - k) * pw (s.ds.length - k) → k < s.ds.length → AddFit (k + 1) (dg s.ds.length m k) (addN s.ds.length m s k).ds := by
  intro k he hk
  refine ⟨by rw [addN_len]; omega, (dg_bounds _ _ _).1, (dg_bounds _ _ _).2, addN_WF _ _ _ hw _, ?_⟩
  rw [he, addN_len]
  have h1 := dg_part m hk
  have h2 := Int.ediv_mul_le m (b := pw (s.ds.length - (k + 1))) (by have := pw_pos (s.ds.length - (k + 1)); omega)
  omega
 intro k
 induction k with
 | zero =>
   intro _
   have hb := numD_bounds hw
   have e : numD (addN s.ds.length m s 0).ds = numD s.ds + m / pw (s.ds.length - 0) * pw (s.ds.length - 0) := by
    rw [Int.ediv_eq_zero_of_lt h0 (by simp; omega)]; simp [addN]
   exact ⟨e, hfit 0 e⟩
 | succ k ih =>
   intro hk
   obtain ⟨h1, h2⟩ := ih (by omega)
   have e : numD (addN s.ds.length m s (k + 1)).ds = numD s.ds + m / pw (s.ds.length - (k + 1)) * pw (s.ds.length - (k + 1)) := by
    rw [addN, addS_num _ _ _ (h2 (by omega)), h1, addN_len]
    have := dg_part m (n := s.ds.length) (k := k) (by omega)
    omega
   exact ⟨e, hfit _ e⟩
theorem takeN_len (n : Nat) (m : Int) (s : WS) (k : Nat) : (takeN n m s k).ds.length = s.ds.length := by
 induction k with
 | zero => rfl
 | succ k ih => rw [takeN, takeS_len, ih]
theorem takeN_WF (n : Nat) (m : Int) (s : WS) (h : WF s.ds) (k : Nat) : WF (takeN n m s k).ds := by
 induction k with
 | zero => exact h
 | succ k ih => rw [takeN]; exact takeS_WF _ _ _ (dg_bounds n m k).1 (dg_bounds n m k).2 ih
theorem takeN_msl (n : Nat) (m : Int) (s : WS) (k : Nat) (hk : k ≤ 8) : (takeN n m s k).ms.length ≤ s.ms.length + 16 * k := by
 induction k with
 | zero => simp [takeN]
 | succ k ih => rw [takeN]; have := ih (by omega); have := takeS_msl (k + 1) (dg n m k) (takeN n m s k); omega
theorem takeN_facts {m : Int} {s : WS} (hw : WF s.ds) (h0 : 0 ≤ m) (hm : m ≤ numD s.ds) : ∀ k, k ≤ s.ds.length →
 numD (takeN s.ds.length m s k).ds = numD s.ds - m / pw (s.ds.length - k) * pw (s.ds.length - k) ∧ (k < s.ds.length → TakeFit (k + 1) (dg s.ds.length m k) (takeN s.ds.length m s k).ds) := by
 have hfit : ∀ k, numD (takeN s.ds.length m s k).ds = numD s.ds - m / pw (s.ds.length - k) * pw (s.ds.length - k) → k < s.ds.length → TakeFit (k + 1) (dg s.ds.length m k) (takeN s.ds.length m s k).ds := by
  intro k he hk
  refine ⟨by rw [takeN_len]; omega, (dg_bounds _ _ _).1, (dg_bounds _ _ _).2, takeN_WF _ _ _ hw _, ?_⟩
  rw [he, takeN_len]
  have h1 := dg_part m hk
  have h2 := Int.ediv_mul_le m (b := pw (s.ds.length - (k + 1))) (by have := pw_pos (s.ds.length - (k + 1)); omega)
  omega
 intro k
 induction k with
 | zero =>
   intro _
   have hb := numD_bounds hw
   have e : numD (takeN s.ds.length m s 0).ds = numD s.ds - m / pw (s.ds.length - 0) * pw (s.ds.length - 0) := by
    rw [Int.ediv_eq_zero_of_lt h0 (by simp; omega)]; simp [takeN]
   exact ⟨e, hfit 0 e⟩
 | succ k ih =>
   intro hk
   obtain ⟨h1, h2⟩ := ih (by omega)
   have e : numD (takeN s.ds.length m s (k + 1)).ds = numD s.ds - m / pw (s.ds.length - (k + 1)) * pw (s.ds.length - (k + 1)) := by
    rw [takeN, takeS_num _ _ _ (h2 (by omega)), h1, takeN_len]
    have := dg_part m (n := s.ds.length) (k := k) (by omega)
    omega
   exact ⟨e, hfit _ e⟩
/-- standard rods with digits -/
def rodsD (ds : List Int) : List R2 := ds.map rodD
theorem rodsD_len (ds : List Int) : (rodsD ds).length = ds.length := by simp [rodsD]
theorem rodsD_get {ds : List Int} {k : Nat} {d : Int} (h : ds[k]? = some d) : (rodsD ds)[k]? = some (rodD d) := by simp [rodsD, h]
theorem rodsD_set (ds : List Int) (k : Nat) (v : Int) : rodsD (ds.set k v) = (rodsD ds).set k (rodD v) := by simp [rodsD, List.map_set]
/-- the value of a rod, of rods -/
def dv (r : R2) : Int := 5 * r.a + r.b
def dsOf (l : List R2) : List Int := l.map dv
theorem dsOf_len (l : List R2) : (dsOf l).length = l.length := by simp [dsOf]
theorem dv_rodD (d : Int) : dv (rodD d) = d := by unfold dv rodD; dsimp only; omega
theorem dsOf_rodsD (ds : List Int) : dsOf (rodsD ds) = ds := by
 unfold dsOf rodsD
 rw [List.map_map]
 conv => rhs; rw [← List.map_id ds]
 exact List.map_congr_left fun d _ => dv_rodD d
/-- a valid frame, a standard one -/
def rodB (u lo : Int) (r : R2) : Bool := inB r.a 0 u && inB r.b 0 lo
def headB (u lo : Int) (n : Nat) : Bool := inB u 1 2 && inB lo 4 5 && inB n 1 8
def frB (u lo : Int) (l : List R2) : Bool := headB u lo l.length && l.all (rodB u lo)
def stdR (r : R2) : Bool := decide (r.a ≤ 1) && decide (r.b ≤ 4)
def stdB (l : List R2) : Bool := l.all stdR
theorem frB_head {u lo : Int} {l : List R2} (h : frB u lo l = true) : (1 ≤ u ∧ u ≤ 2) ∧ (4 ≤ lo ∧ lo ≤ 5) ∧ 1 ≤ l.length ∧ l.length ≤ 8 := by
 simp only [frB, headB, Bool.and_eq_true, inB_iff] at h
 omega
theorem frB_rod {u lo : Int} {l : List R2} (h : frB u lo l = true) {k : Nat} {r : R2} (hr : l[k]? = some r) : 0 ≤ r.a ∧ r.a ≤ u ∧ 0 ≤ r.b ∧ r.b ≤ lo := by
 simp only [frB, Bool.and_eq_true, List.all_eq_true] at h
 have := h.2 r (List.mem_of_getElem? hr)
 simp only [rodB, Bool.and_eq_true, inB_iff] at this
 omega
theorem std_rod {l : List R2} (h : stdB l = true) {k : Nat} {r : R2} (hr : l[k]? = some r) : r.a ≤ 1 ∧ r.b ≤ 4 := by
 simp only [stdB, List.all_eq_true] at h
 have := h r (List.mem_of_getElem? hr)
 simpa [stdR] using this
theorem dsOf_WF {u lo : Int} {l : List R2} (h : frB u lo l = true) (hs : stdB l = true) : WF (dsOf l) := by
 intro d hd
 obtain ⟨r, hr, rfl⟩ := List.mem_map.1 hd
 obtain ⟨k, hk⟩ := List.getElem?_of_mem hr
 have h1 := frB_rod h hk
 have h2 := std_rod hs hk
 unfold dv
 omega
theorem rodsD_dsOf {u lo : Int} {l : List R2} (h : frB u lo l = true) (hs : stdB l = true) : rodsD (dsOf l) = l := by
 unfold dsOf rodsD
 rw [List.map_map]
 conv => rhs; rw [← List.map_id l]
 refine List.map_congr_left fun r hr => ?_
 obtain ⟨k, hk⟩ := List.getElem?_of_mem hr
 have h1 := frB_rod h hk
 have h2 := std_rod hs hk
 rw [R2.eq_iff]
 show dv r / 5 = r.a ∧ dv r % 5 = r.b
 unfold dv
 omega
/-- the number on a frame -/
def numR (l : List R2) : Int := numD (dsOf l)
theorem numR_take {l : List R2} {k : Nat} {r : R2} (hr : l[k]? = some r) : numR (l.take (k + 1)) = 10 * numR (l.take k) + (5 * r.a + r.b) := by
 unfold numR
 rw [List.take_add_one, hr]
 simp only [dsOf, List.map_append, Option.toList_some, List.map_cons, List.map_nil]
 rw [numD_snoc]
 rfl
theorem numD_le15 {ds : List Int} (h : ∀ d ∈ ds, 0 ≤ d ∧ d ≤ 15) : 0 ≤ numD ds ∧ numD ds < 2 * pw ds.length := by
 induction ds with
 | nil => exact ⟨by decide, by decide⟩
 | cons d ds ih =>
   obtain ⟨h1, h2⟩ := ih (fun x hx => h x (List.mem_cons_of_mem _ hx))
   obtain ⟨h3, h4⟩ := h d (List.mem_cons_self ..)
   have hp := pw_pos ds.length
   rw [numD_cons, List.length_cons, pw_succ]
   have h5 : 0 ≤ d * pw ds.length := Int.mul_nonneg h3 (by omega)
   have h6 : d * pw ds.length ≤ 15 * pw ds.length := Int.mul_le_mul_of_nonneg_right h4 (by omega)
   omega
/-- a bound for the numbers of valid frames, and of their beginnings -/
theorem numR_bounds {u lo : Int} {l : List R2} (h : frB u lo l = true) (k : Nat) : 0 ≤ numR (l.take k) ∧ numR (l.take k) < 200000000 := by
 obtain ⟨hu, hl, hn⟩ := frB_head h
 have h1 := numD_le15 (ds := dsOf (l.take k)) (by
  intro d hd
  obtain ⟨r, hr, rfl⟩ := List.mem_map.1 hd
  obtain ⟨j, hj⟩ := List.getElem?_of_mem (List.mem_of_mem_take hr)
  have h1 := frB_rod h hj
  unfold dv
  omega)
 have h2 := pw_lt (n := (dsOf (l.take k)).length) (by rw [dsOf_len, List.length_take]; omega)
 unfold numR
 omega
theorem numR_all (l : List R2) (k : Nat) (h : l.length ≤ k) : numR (l.take k) = numR l := by rw [List.take_of_length_le h]
end Go.Proofs.Ytaghjaiaoajpiaa
