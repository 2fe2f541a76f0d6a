
/- Scripts, plainly: their words, and what carrying them out makes of a worker. -/
import Derived.Test.YtlkfffohjeoooaaFrF
import Derived.Test.YtlkfffohjeoooaaBytes
namespace Go.Proofs.Ytlkfffohjeoooaa
open Go.RowKit
set_option linter.unusedVariables false
set_option linter.unusedSimpArgs false
/-- a word of a script -/
structure RW where
  times : Nat
  what : UInt8
  digit : Nat
def digB (c : UInt8) : Bool := decide (49 ≤ c.toNat ∧ c.toNat ≤ 57)
/-- a word that is not repeated -/
def plainO (l : List UInt8) : Option (UInt8 × Nat) :=
  match l with
  | [c] => if c = 60 ∨ c = 62 ∨ c = 99 then some (c, 0) else none
  | [c, d] => if (c = 43 ∨ c = 45) ∧ digB d = true then some (c, d.toNat - 48) else none
  | _ => none
def repB (c : UInt8) : Bool := decide (50 ≤ c.toNat ∧ c.toNat ≤ 57)
def wordO (l : List UInt8) : Option RW :=
  match l with
  | [] => none
  | c :: rest => if repB c = true ∧ rest ≠ [] then (plainO rest).map fun p => ⟨c.toNat - 48, p.1, p.2⟩ else (plainO l).map fun p => ⟨1, p.1, p.2⟩
def wd (l : List UInt8) : RW := (wordO l).getD ⟨1, 99, 0⟩
/-- the words of a script -/
def wordsL (s : ByteArray) : List (List UInt8) := if s.size = 0 then [] else splitL 32 (bl s)
def scrB (s : ByteArray) : Bool := decide (s.size ≤ 80) && (wordsL s).all fun l => (wordO l).isSome
def rulesL (s : ByteArray) : List RW := (wordsL s).map wd
theorem rulesL_len (s : ByteArray) : (rulesL s).length = (wordsL s).length := by simp [rulesL]
theorem wordsL_len (s : ByteArray) : (wordsL s).length ≤ 1 + s.size := by
  unfold wordsL
  split
  · simp
  · rw [splitL_len]
    have := List.count_le_length (a := (32 : UInt8)) (l := bl s)
    rw [bl_size] at this
    omega
/-- what a word that is one tells -/
def okW (w : RW) : Prop := (1 ≤ w.times ∧ w.times ≤ 9) ∧ ((w.what = 60 ∨ w.what = 62 ∨ w.what = 99) ∧ w.digit = 0 ∨ (w.what = 43 ∨ w.what = 45) ∧ 1 ≤ w.digit ∧ w.digit ≤ 9)
theorem plainO_ok {l : List UInt8} {c : UInt8} {d : Nat} (h : plainO l = some (c, d)) : (c = 60 ∨ c = 62 ∨ c = 99) ∧ d = 0 ∨ (c = 43 ∨ c = 45) ∧ 1 ≤ d ∧ d ≤ 9 := by
  unfold plainO at h
  split at h
  · split at h
    · rename_i hc
      injection h with h
      injection h with h1 h2
      subst h1 h2
      exact .inl ⟨hc, rfl⟩
    · cases h
  · split at h
    · rename_i hc
      injection h with h
      injection h with h1 h2
      subst h1 h2
      have hd := hc.2
      simp only [digB, decide_eq_true_eq] at hd
      exact .inr ⟨hc.1, by omega, by omega⟩
    · cases h
  · cases h
theorem wordO_ok {l : List UInt8} {w : RW} (h : wordO l = some w) : okW w := by
  unfold wordO at h
  split at h
  · cases h
  · rename_i c rest
    split at h
    · rename_i hc
      rcases hp : plainO rest with _ | ⟨a, b⟩
      · rw [hp] at h; cases h
      · rw [hp] at h
        injection h with h
        subst h
        have hr := hc.1
        simp only [repB, decide_eq_true_eq] at hr
        exact ⟨⟨by dsimp only; omega, by dsimp only; omega⟩, plainO_ok hp⟩
    · rcases hp : plainO (c :: rest) with _ | ⟨a, b⟩
      · rw [hp] at h; cases h
      · rw [hp] at h
        injection h with h
        subst h
        exact ⟨⟨by dsimp only; omega, by dsimp only; omega⟩, plainO_ok hp⟩
/-- a word carried out once -/
def stO (n : Nat) (w : RW) (p : WS × Nat) : Option (WS × Nat) :=
  if w.what = 60 then (if 0 < p.2 then some (p.1, p.2 - 1) else none)
  else if w.what = 62 then (if p.2 + 1 < n then some (p.1, p.2 + 1) else none)
  else if w.what = 99 then some (⟨p.1.ds.set p.2 0, p.1.ms ++ turnM p.2 (p.1.ds.getD p.2 0) 0, p.1.ask⟩, p.2)
  else if w.what = 43 then (if canB (rodsD p.1.ds) ((w.digit : Int) * pw (n - (p.2 + 1))) = true then some (addS (p.2 + 1) w.digit p.1, p.2) else none)
  else (if canTB (rodsD p.1.ds) ((w.digit : Int) * pw (n - (p.2 + 1))) = true then some (takeS (p.2 + 1) w.digit p.1, p.2) else none)
/-- k times -/
def itO (n : Nat) (w : RW) : Nat → WS × Nat → Option (WS × Nat)
  | 0, p => some p
  | k + 1, p => (itO n w k p).bind (stO n w)
def wdO (n : Nat) (w : RW) (p : WS × Nat) : Option (WS × Nat) := itO n w w.times p
/-- words carried out -/
def runO (n : Nat) (ws : List RW) (p : WS × Nat) : Option (WS × Nat) := ws.foldl (fun o w => o.bind (wdO n w)) (some p)
/-- how many words can be carried out -/
def doneN (n : Nat) : List RW → WS × Nat → Nat
  | [], _ => 0
  | w :: ws, p => match wdO n w p with
    | none => 0
    | some q => 1 + doneN n ws q
theorem runO_none (n : Nat) (ws : List RW) : ws.foldl (fun (o : Option (WS × Nat)) w => o.bind (wdO n w)) none = none := by
  induction ws with
  | nil => rfl
  | cons w ws ih => exact ih
theorem runO_cons (n : Nat) (w : RW) (ws : List RW) (p : WS × Nat) : runO n (w :: ws) p = (wdO n w p).bind (runO n ws) := by
  unfold runO
  rw [List.foldl_cons]
  simp only [Option.bind_some]
  rcases wdO n w p with _ | q
  · exact runO_none n ws
  · rfl
theorem runO_take {n : Nat} {ws : List RW} {k : Nat} {p q : WS × Nat} {w : RW} (h : runO n (ws.take k) p = some q) (hw : ws[k]? = some w) : runO n (ws.take (k + 1)) p = wdO n w q := by
  unfold runO at h ⊢
  rw [List.take_add_one, hw]
  simp [List.foldl_append, h]
theorem doneN_split (n : Nat) : ∀ (ws : List RW) (k : Nat) (p q : WS × Nat), k ≤ ws.length → runO n (ws.take k) p = some q → doneN n ws p = k + doneN n (ws.drop k) q := by
  intro ws
  induction ws with
  | nil => intro k p q hk h; simp at hk; subst hk; simp [runO] at h; subst h; simp
  | cons w ws ih =>
    intro k p q hk h
    rcases k with _ | k
    · simp [runO] at h; subst h; simp
    · rw [List.take_succ_cons, runO_cons] at h
      rcases hw : wdO n w p with _ | p'
      · rw [hw] at h; cases h
      · rw [hw] at h
        have := ih k p' q (by simpa using hk) h
        rw [doneN, hw]
        simp only [List.drop_succ_cons]
        omega
theorem done_at {n k : Nat} {ws : List RW} {p q : WS × Nat} {w : RW} (h : runO n (ws.take k) p = some q) (hw : ws[k]? = some w) (hn : wdO n w q = none) : doneN n ws p = k ∧ runO n ws p = none := by
  have hk := (List.getElem?_eq_some_iff.1 hw).1
  refine ⟨?_, ?_⟩
  · rw [doneN_split n ws k p q (by omega) h, List.drop_eq_getElem_cons hk, doneN]
    rw [List.getElem?_eq_getElem hk] at hw
    injection hw with hw
    rw [hw, hn]
    rfl
  · unfold runO at h ⊢
    conv => lhs; rw [← List.take_append_drop k ws]
    rw [List.foldl_append, h, List.drop_eq_getElem_cons hk, List.foldl_cons]
    rw [List.getElem?_eq_getElem hk] at hw
    injection hw with hw
    rw [hw]
    simp only [Option.bind_some]
    rw [hn]
    exact runO_none n _
theorem done_all {n : Nat} {ws : List RW} {p q : WS × Nat} (h : runO n ws p = some q) : doneN n ws p = ws.length := by
  have := doneN_split n ws ws.length p q (Nat.le_refl _) (by rw [List.take_of_length_le (Nat.le_refl _)]; exact h)
  rw [this]
  simp [doneN]
theorem doneN_le (n : Nat) : ∀ (ws : List RW) (p : WS × Nat), doneN n ws p ≤ ws.length := by
  intro ws
  induction ws with
  | nil => intro p; exact Nat.le_refl _
  | cons w ws ih =>
    intro p
    rw [doneN]
    rcases wdO n w p with _ | q
    · simp
    · have := ih q; simp only [List.length_cons]; omega
theorem done_less {n : Nat} {ws : List RW} {p : WS × Nat} (h : runO n ws p = none) : doneN n ws p < ws.length := by
  revert p
  induction ws with
  | nil => intro p h; simp [runO] at h
  | cons w ws ih =>
    intro p h
    rw [runO_cons] at h
    rw [doneN]
    rcases hw : wdO n w p with _ | q
    · simp
    · rw [hw] at h
      have := ih (p := q) h
      simp only [List.length_cons]
      omega
/-- what stays true of a worker on a frame of n rods -/
def Inv (n : Nat) (p : WS × Nat) : Prop := WF p.1.ds ∧ p.1.ds.length = n ∧ p.2 < n
theorem canB_fit {n r d : Nat} {ds : List Int} (hw : WF ds) (hn : ds.length = n) (hr : r < n) (d9 : d ≤ 9) (h : canB (rodsD ds) ((d : Int) * pw (n - (r + 1))) = true) : AddFit (r + 1) d ds := by
  have := canAdd_fit h
  rw [dsOf_rodsD] at this
  refine ⟨by omega, by omega, by omega, hw, ?_⟩
  rw [hn] at this ⊢
  exact this
theorem canTB_fit {n r d : Nat} {ds : List Int} (hw : WF ds) (hn : ds.length = n) (hr : r < n) (d9 : d ≤ 9) (h : canTB (rodsD ds) ((d : Int) * pw (n - (r + 1))) = true) : TakeFit (r + 1) d ds := by
  have := canTake_fit h
  rw [dsOf_rodsD] at this
  refine ⟨by omega, by omega, by omega, hw, ?_⟩
  rw [hn]
  exact this
theorem okW_d {w : RW} (h : okW w) : w.digit ≤ 9 := by rcases h.2 with ⟨_, h⟩ | ⟨_, _, h⟩ <;> omega
theorem stO_inv {n : Nat} {w : RW} {p q : WS × Nat} (hw : okW w) (hi : Inv n p) (h : stO n w p = some q) : Inv n q ∧ q.1.ms.length ≤ p.1.ms.length + 16 * n ∧ (0 ≤ p.1.ask → 0 ≤ q.1.ask) ∧ q.1.ask ≤ p.1.ask + n := by
  obtain ⟨h1, h2, h3⟩ := hi
  have hd := okW_d hw
  unfold stO at h
  split at h
  · split at h
    · injection h with h
      subst h
      exact ⟨⟨h1, h2, by dsimp only; omega⟩, by dsimp only; omega, fun h => h, by dsimp only; omega⟩
    · cases h
  split at h
  · split at h
    · injection h with h
      subst h
      exact ⟨⟨h1, h2, by dsimp only; omega⟩, by dsimp only; omega, fun h => h, by dsimp only; omega⟩
    · cases h
  split at h
  · injection h with h
    subst h
    refine ⟨⟨h1.set _ (by omega) (by omega), by dsimp only; rw [List.length_set]; exact h2, h3⟩, ?_, fun h => h, by dsimp only; omega⟩
    have := turnM_len p.2 (p.1.ds.getD p.2 0) 0
    simp only [List.length_append]
    omega
  split at h
  · split at h
    · rename_i hc
      injection h with h
      subst h
      have hf := canB_fit h1 h2 h3 hd hc
      have hm := addS_msl (p.2 + 1) w.digit p.1
      have ha := addS_ask (p.2 + 1) w.digit p.1
      exact ⟨⟨addS_WF _ _ _ (by omega) h1, by rw [addS_len]; exact h2, h3⟩, by dsimp only; omega, fun _ => by dsimp only; omega, by dsimp only; omega⟩
    · cases h
  · split at h
    · rename_i hc
      injection h with h
      subst h
      have hm := takeS_msl (p.2 + 1) w.digit p.1
      have ha := takeS_ask (p.2 + 1) w.digit p.1
      exact ⟨⟨takeS_WF _ _ _ (by omega) (by omega) h1, by rw [takeS_len]; exact h2, h3⟩, by dsimp only; omega, fun _ => by dsimp only; omega, by dsimp only; omega⟩
    · cases h
/-- bounds of a worker after so many steps -/
def Bd (n m : Nat) (p : WS × Nat) : Prop := Inv n p ∧ p.1.ms.length ≤ 16 * n * m ∧ 0 ≤ p.1.ask ∧ p.1.ask ≤ n * m
theorem Bd.step {n m : Nat} {w : RW} {p q : WS × Nat} (hw : okW w) (hb : Bd n m p) (h : stO n w p = some q) : Bd n (m + 1) q := by
  obtain ⟨h1, h2, h3, h4⟩ := hb
  obtain ⟨k1, k2, k3, k4⟩ := stO_inv hw h1 h
  have e1 : 16 * n * (m + 1) = 16 * n * m + 16 * n := by rw [Nat.mul_add, Nat.mul_one]
  have e2 : ((n * (m + 1) : Nat) : Int) = (n * m : Nat) + n := by rw [Nat.mul_add, Nat.mul_one]; omega
  refine ⟨k1, by omega, k3 h3, ?_⟩
  have h4' : p.1.ask ≤ ((n * m : Nat) : Int) := by push_cast; exact h4
  have : q.1.ask ≤ ((n * (m + 1) : Nat) : Int) := by omega
  push_cast at this
  exact this
theorem itO_some {n : Nat} {w : RW} {k j : Nat} {p : WS × Nat} (hj : j ≤ k) (h : (itO n w k p).isSome = true) : (itO n w j p).isSome = true := by
  induction k with
  | zero => cases (Nat.le_zero.1 hj); exact h
  | succ k ih =>
    rcases Nat.lt_or_ge j (k + 1) with hlt | hge
    · refine ih (by omega) ?_
      rw [itO] at h
      rcases hq : itO n w k p with _ | q
      · rw [hq] at h; cases h
      · rfl
    · obtain rfl : j = k + 1 := by omega
      exact h
theorem itO_none {n : Nat} {w : RW} {k j : Nat} {p : WS × Nat} (hj : j ≤ k) (h : itO n w j p = none) : itO n w k p = none := by
  rcases hq : itO n w k p with _ | q
  · rfl
  · have := itO_some hj (by rw [hq]; rfl)
    rw [h] at this
    cases this
end Go.Proofs.Ytlkfffohjeoooaa
