/- Reading one line of a log as a record: program and reference, all cases joined. -/
import Derived.Test.YtclihlihaigddaaVM2
import Derived.Test.YtclihlihaigddaaVDecS
import Derived.Test.YtclihlihaigddaaVM1
import Derived.Test.YtclihlihaigddaaVScEc
namespace Go.Proofs.Ytclihlihaigddaa
open Go.RowKit
set_option linter.unusedVariables false
set_option linter.unusedSimpArgs false
theorem head_size (k : Nat) : (dHead k).size = (dec k).size + 1 := by
 simp [dHead, ByteArray.size_append, lit_size]
theorem dec_cases (k : Nat) (l : ByteArray) (P : ByteArray → ByteArray → Bool → Prop)
 (h1 : ∀ T D, Hid (dec k = D) → D.size ≤ 20 → Hid (cutB l 35 = T) → T.size ≤ l.size → (T.size : Int) < (D.size : Int) + 1 → P ⟨#[]⟩ ⟨#[]⟩ false)
 (h2 : ∀ T D, Hid (dec k = D) → D.size ≤ 20 → Hid (cutB l 35 = T) → T.size ≤ l.size → (D.size : Int) + 1 ≤ (T.size : Int) → ((T.extract 0 (D.size + 1)).toList == (D ++ ⟨#[32]⟩).toList) = false → P ⟨#[]⟩ ⟨#[]⟩ false)
 (h3 : ∀ T D R C, Hid (dec k = D) → D.size ≤ 20 → Hid (cutB l 35 = T) → T.size ≤ l.size → (D.size : Int) + 1 ≤ (T.size : Int) → ((T.extract 0 (D.size + 1)).toList == (D ++ ⟨#[32]⟩).toList) = true → Hid (T.extract (D.size + 1) T.size = R) → R.size ≤ l.size → Hid (cutB R 64 = C) → C.size ≤ R.size → ((C.size : Int) == (R.size : Int)) = true → P ⟨#[]⟩ ⟨#[]⟩ false)
 (h4 : ∀ T D R C Q, Hid (dec k = D) → D.size ≤ 20 → Hid (cutB l 35 = T) → T.size ≤ l.size → (D.size : Int) + 1 ≤ (T.size : Int) → ((T.extract 0 (D.size + 1)).toList == (D ++ ⟨#[32]⟩).toList) = true → Hid (T.extract (D.size + 1) T.size = R) → R.size ≤ l.size → Hid (cutB R 64 = C) → C.size ≤ R.size → ((C.size : Int) == (R.size : Int)) = false → (C.size : Int) + 1 ≤ (R.size : Int) → Hid (R.extract (C.size + 1) R.size = Q) → Q.size ≤ l.size → recB C Q = false → P C Q false)
 (h5 : ∀ T D R C Q, Hid (dec k = D) → D.size ≤ 20 → Hid (cutB l 35 = T) → T.size ≤ l.size → (D.size : Int) + 1 ≤ (T.size : Int) → ((T.extract 0 (D.size + 1)).toList == (D ++ ⟨#[32]⟩).toList) = true → Hid (T.extract (D.size + 1) T.size = R) → R.size ≤ l.size → Hid (cutB R 64 = C) → C.size ≤ R.size → ((C.size : Int) == (R.size : Int)) = false → (C.size : Int) + 1 ≤ (R.size : Int) → Hid (R.extract (C.size + 1) R.size = Q) → Q.size ≤ l.size → recB C Q = true → P C Q (decide (lineB (k : Int) C Q = l ++ ⟨#[10]⟩))) :
 P (dC k l) (dR k l) (dOk k l) := by
 have zD := dec_size k
 have zH := head_size k
 have zT : (dText l).size ≤ l.size := cutB_size l 35
 have aD : Hid (dec k = dec k) := Lib.hid rfl
 have aT : Hid (cutB l 35 = dText l) := Lib.hid rfl
 have zD' : (dec k).size ≤ 20 := by omega
 by_cases q1 : (dHead k).size ≤ (dText l).size
 · by_cases q2 : (dText l).extract 0 (dHead k).size = dHead k
   · have hp : dPre k l = true := by simp [dPre, q1, q2]
     have b2 : (((dText l).extract 0 ((dec k).size + 1)).toList == (dec k ++ ⟨#[32]⟩).toList) = true := by
      rw [← zH, beq_iff_eq, toList_eq_iff]; exact q2
     have aR : Hid ((dText l).extract ((dec k).size + 1) (dText l).size = dRest k l) := Lib.hid (by rw [← zH]; rfl)
     have zR : (dRest k l).size ≤ l.size := by
      rw [dRest, extract_size _ _ _ (Nat.le_refl _)]; omega
     have aC : Hid (cutB (dRest k l) 64 = dCmd k l) := Lib.hid rfl
     have zC : (dCmd k l).size ≤ (dRest k l).size := cutB_size _ _
     by_cases q3 : (dCmd k l).size = (dRest k l).size
     · have ha : dAt k l = false := by simp [dAt, hp, q3]
       have := h3 (dText l) (dec k) (dRest k l) (dCmd k l) aD zD' aT zT (by omega) b2 aR zR aC zC (by rw [beq_iff_eq]; omega)
       simpa [dC, dR, dOk, ha] using this
     · have ha : dAt k l = true := by simp [dAt, hp, q3]
       have q3' : (((dCmd k l).size : Int) == ((dRest k l).size : Int)) = false := by
        rw [Bool.eq_false_iff]; intro h; rw [beq_iff_eq] at h; omega
       have aQ : Hid ((dRest k l).extract ((dCmd k l).size + 1) (dRest k l).size = dRep k l) := Lib.hid rfl
       have zQ : (dRep k l).size ≤ l.size := by
        rw [dRep, extract_size _ _ _ (Nat.le_refl _)]; omega
       rcases hb : recB (dCmd k l) (dRep k l) with _ | _
       · have := h4 _ _ _ _ _ aD zD' aT zT (by omega) b2 aR zR aC zC q3' (by omega) aQ zQ hb
         simpa [dC, dR, dOk, ha, hb] using this
       · have := h5 _ _ _ _ _ aD zD' aT zT (by omega) b2 aR zR aC zC q3' (by omega) aQ zQ hb
         simpa [dC, dR, dOk, ha, hb] using this
   · have ha : dAt k l = false := by simp [dAt, dPre, q2]
     have b2 : (((dText l).extract 0 ((dec k).size + 1)).toList == (dec k ++ ⟨#[32]⟩).toList) = false := by
      rw [Bool.eq_false_iff]; intro h; rw [← zH, beq_iff_eq, toList_eq_iff] at h; exact q2 h
     have := h2 _ _ aD zD' aT zT (by omega) b2
     simpa [dC, dR, dOk, ha] using this
 · have ha : dAt k l = false := by simp [dAt, dPre, q1]
   have := h1 _ _ aD zD' aT zT (by omega)
   simpa [dC, dR, dOk, ha] using this
theorem decode_any (k : Nat) (l : ByteArray) (w : World) (hk : k ≤ 59) (hl : l.size ≤ 6000000) :
 Calls Try.prog 149 #[.int .i64 k, .string l] w fun e w' => e = .returned (.tuple #[recV (dC k l) (dR k l), .bool (dOk k l)]) ∧ Below w.heap.size w w' :=
 dec_cases k l (fun c r b => Calls Try.prog 149 #[.int .i64 k, .string l] w fun e w' => e = .returned (.tuple #[recV c r, .bool b]) ∧ Below w.heap.size w w')
  (fun T D a b c d e => dec_short k l T D w hk hl a b c d e) (fun T D a b c d e f => dec_head k l T D w hk hl a b c d e f)
  (fun T D R C a b c d e f g h i j m => dec_noat k l T D R C w hk hl a b c d e f g h i j m)
  (fun T D R C Q a b c d e f g h i j m n p q r => dec_bad k l T D R C Q w hk hl a b c d e f g h i j m n p q r)
  (fun T D R C Q a b c d e f g h i j m n p q r => dec_good k l T D R C Q w hk hl a b c d e f g h i j m n p q r)
theorem read_any (k : Nat) (l : ByteArray) (w : World) (hk : k ≤ 59) (hl : l.size ≤ 6000000) :
 Calls Try.prog 157 #[.string l, .int .i64 k] w fun e w' => e = .returned (.tuple #[recV (dC k l) (dR k l), .bool (dOk k l)]) ∧ Below w.heap.size w w' :=
 dec_cases k l (fun c r b => Calls Try.prog 157 #[.string l, .int .i64 k] w fun e w' => e = .returned (.tuple #[recV c r, .bool b]) ∧ Below w.heap.size w w')
  (fun T D a b c d e => read_short k l T D w hk hl a b c d e) (fun T D a b c d e f => read_head k l T D w hk hl a b c d e f)
  (fun T D R C a b c d e f g h i j m => read_noat k l T D R C w hk hl a b c d e f g h i j m)
  (fun T D R C Q a b c d e f g h i j m n p q r => read_bad k l T D R C Q w hk hl a b c d e f g h i j m n p q r)
  (fun T D R C Q a b c d e f g h i j m n p q r => read_good k l T D R C Q w hk hl a b c d e f g h i j m n p q r)
end Go.Proofs.Ytclihlihaigddaa
namespace Go.Proofs.Ytclihlihaigddaa
open Go.RowKit
set_option linter.unusedVariables false
set_option linter.unusedSimpArgs false
theorem tw_facts (p : UInt8 → Bool) : ∀ t : List UInt8, (∀ i c, i < (t.takeWhile p).length → t[i]? = some c → p c = true) ∧ (∀ c, t[(t.takeWhile p).length]? = some c → p c = false) ∧ t.take (t.takeWhile p).length = t.takeWhile p := by
 intro t
 induction t with
 | nil => simp
 | cons x t ih =>
   obtain ⟨h1, h2, h3⟩ := ih
   rcases hx : p x with _ | _
   · simp [List.takeWhile_cons, hx]
   · refine ⟨?_, ?_, ?_⟩
     · intro i c hi hc
       rcases i with _ | i
       · simp at hc; rw [← hc]; exact hx
       · simp only [List.takeWhile_cons, hx, if_true, List.length_cons] at hi
         exact h1 i c (by omega) (by simpa using hc)
     · intro c hc
       simp only [List.takeWhile_cons, hx, if_true, List.length_cons, List.getElem?_cons_succ] at hc
       exact h2 c hc
     · simp [List.takeWhile_cons, hx, h3]
/-- the line that begins at a place, and where it ends -/
def ln (s : ByteArray) (at_ : Nat) : ByteArray := cutB (s.extract at_ s.size) 10
def lnEnd (s : ByteArray) (at_ : Nat) : Nat := at_ + (ln s at_).size
theorem ln_bl (s : ByteArray) (a : Nat) : bl (ln s a) = ((bl s).drop a).takeWhile (· != 10) := by
 rw [ln, cutB, bl_str, bl_extract, ← bl_size, List.take_length]
theorem ln_size (s : ByteArray) (a : Nat) : (ln s a).size = (((bl s).drop a).takeWhile (· != 10)).length := by rw [← bl_size, ln_bl]
theorem lnEnd_le {s : ByteArray} {a : Nat} (h : a ≤ s.size) : lnEnd s a ≤ s.size := by
 have h1 := cutB_size (s.extract a s.size) 10
 rw [extract_size _ _ _ (Nat.le_refl _)] at h1
 unfold lnEnd ln
 omega
theorem ln_miss {s : ByteArray} {a j : Nat} (h1 : a ≤ j) (h2 : j < lnEnd s a) (hj : j < s.size) : s[j] ≠ 10 := by
 have := (tw_facts (· != 10) ((bl s).drop a)).1 (j - a) s[j] (by rw [← ln_size]; unfold lnEnd at h2; omega) (by rw [List.getElem?_drop, show a + (j - a) = j from by omega]; exact bl_get hj)
 simpa using this
theorem ln_hit {s : ByteArray} {a : Nat} (hj : lnEnd s a < s.size) : s[lnEnd s a] = 10 := by
 have := (tw_facts (· != 10) ((bl s).drop a)).2.1 s[lnEnd s a] (by rw [← ln_size, List.getElem?_drop]; exact bl_get hj)
 simpa using this
theorem ln_extract (s : ByteArray) (a : Nat) : s.extract a (lnEnd s a) = ln s a := by
 apply bl_inj
 have h := (tw_facts (· != 10) ((bl s).drop a)).2.2
 rw [← ln_size, ← ln_bl] at h
 rw [bl_extract, ← h, List.take_drop]
 rfl
/-- how many pieces: two or more where there is a newline -/
theorem ln_pieces {s : ByteArray} {a : Nat} (h : a ≤ s.size) : oneB (s.extract a s.size) 10 < 2 ↔ lnEnd s a = s.size := by
 have e1 : bl (s.extract a s.size) = (bl s).drop a := by rw [bl_extract, ← bl_size, List.take_length]
 have e2 : oneB (s.extract a s.size) 10 = 1 + ((bl s).drop a).count 10 := by
  show (splitL 10 (bl (s.extract a s.size))).length = _
  rw [splitL_len, e1]
 rw [e2]
 have hle := lnEnd_le h
 constructor
 · intro hlt
   have h0 : ((bl s).drop a).count 10 = 0 := by omega
   by_cases he : lnEnd s a = s.size
   · exact he
   · have hl : lnEnd s a < s.size := by omega
     have h10 := ln_hit hl
     have hm : (10 : UInt8) ∈ (bl s).drop a := by
      rw [List.mem_iff_getElem?]
      exact ⟨lnEnd s a - a, by rw [List.getElem?_drop, show a + (lnEnd s a - a) = lnEnd s a from by unfold lnEnd; omega, bl_get hl, h10]⟩
     exact absurd hm (List.count_eq_zero.1 h0)
 · intro he
   have : ((bl s).drop a).count 10 = 0 := by
    rw [List.count_eq_zero]
    intro hm
    obtain ⟨i, hi⟩ := List.mem_iff_getElem?.1 hm
    have hlt : i < ((bl s).drop a).length := (List.getElem?_eq_some_iff.1 hi).1
    rw [List.length_drop, bl_size] at hlt
    rw [List.getElem?_drop, bl_get (by omega)] at hi
    exact ln_miss (s := s) (a := a) (j := a + i) (by omega) (by omega) (by omega) (by simpa using hi)
   omega
/-- one more record from a place on, with a number -/
def stepB (s : ByteArray) (a k : Nat) : Bool := decide (lnEnd s a < s.size) && dOk k (ln s a)
def recF (s : ByteArray) : Nat → Nat → Nat → List (ByteArray × ByteArray) × Nat
 | 0, a, _ => ([], a)
 | f + 1, a, k => if stepB s a k = true then let r := recF s f (lnEnd s a + 1) (k + 1); ((dC k (ln s a), dR k (ln s a)) :: r.1, r.2) else ([], a)
def recL (s : ByteArray) : List (ByteArray × ByteArray) := (recF s 60 0 0).1
def recE (s : ByteArray) : Nat := (recF s 60 0 0).2
theorem recF_end (s : ByteArray) : ∀ (f a k : Nat), a ≤ s.size → a ≤ (recF s f a k).2 ∧ (recF s f a k).2 ≤ s.size ∧ (recF s f a k).1.length ≤ f := by
 intro f
 induction f with
 | zero => intro a k h; simp [recF, h]
 | succ f ih =>
   intro a k h
   unfold recF
   split
   · rename_i hs
     simp only [stepB, Bool.and_eq_true, decide_eq_true_eq] at hs
     have := ih (lnEnd s a + 1) (k + 1) (by omega)
     have h2 : a ≤ lnEnd s a := by unfold lnEnd; omega
     refine ⟨by simp only []; omega, by simp only []; omega, by simp only [List.length_cons]; omega⟩
   · exact ⟨Nat.le_refl _, h, by simp⟩
end Go.Proofs.Ytclihlihaigddaa
namespace Go.Proofs.Ytclihlihaigddaa
open Go.RowKit
set_option linter.unusedVariables false
set_option linter.unusedSimpArgs false
theorem dOk_parts {k : Nat} {l : ByteArray} (h : dOk k l = true) : dAt k l = true ∧ recB (dCmd k l) (dRep k l) = true ∧ lineB k (dCmd k l) (dRep k l) = l ++ ⟨#[10]⟩ := by
 simp only [dOk, Bool.and_eq_true, decide_eq_true_eq] at h
 exact ⟨h.1.1, h.1.2, h.2⟩
theorem dOk_size {k : Nat} {l : ByteArray} (h : dOk k l = true) : l.size + 1 ≤ 405 := by
 obtain ⟨_, h2, h3⟩ := dOk_parts h
 have h4 := rec_parts h2
 have h5 := lineB_size (k : Int) (dCmd k l) (dRep k l)
 have h6 : (l ++ ⟨#[10]⟩ : ByteArray).size = l.size + 1 := by rw [ByteArray.size_append]; rfl
 rw [h3, h6] at h5
 omega
theorem stepB_parts {s : ByteArray} {a k : Nat} (h : stepB s a k = true) : lnEnd s a < s.size ∧ dOk k (ln s a) = true := by
 simpa [stepB] using h
theorem recF_size (s : ByteArray) : ∀ (f a k : Nat), (recF s f a k).2 ≤ a + f * 405 := by
 intro f
 induction f with
 | zero => intro a k; simp [recF]
 | succ f ih =>
   intro a k
   unfold recF
   split
   · rename_i hs
     have h1 := dOk_size (stepB_parts hs).2
     have h2 := ih (lnEnd s a + 1) (k + 1)
     simp only []
     unfold lnEnd at h2 ⊢
     omega
   · simp
theorem recE_small (s : ByteArray) : recE s ≤ 24300 := by have := recF_size s 60 0 0; unfold recE; omega
theorem recE_le (s : ByteArray) : recE s ≤ s.size := (recF_end s 60 0 0 (Nat.zero_le _)).2.1
theorem recL_len (s : ByteArray) : (recL s).length ≤ 60 := (recF_end s 60 0 0 (Nat.zero_le _)).2.2
/-- a log is valid: durable bytes, pending bytes, how many records -/
def logB (d p : ByteArray) (z : Int) : Bool := decide ((recE (d ++ p) : Int) = d.size + p.size) && decide ((recE d : Int) = d.size) && decide (z = ((recL (d ++ p)).length : Int))
theorem logB_parts {d p : ByteArray} {z : Int} (h : logB d p z = true) : recE (d ++ p) = d.size + p.size ∧ recE d = d.size ∧ z = ((recL (d ++ p)).length : Int) := by
 simp only [logB, Bool.and_eq_true, decide_eq_true_eq] at h
 exact ⟨by omega, by omega, h.2⟩
theorem logB_size {d p : ByteArray} {z : Int} (h : logB d p z = true) : d.size + p.size ≤ 24300 := by
 have h1 := recE_small (d ++ p)
 have := (logB_parts h).1
 omega
theorem logB_count {d p : ByteArray} {z : Int} (h : logB d p z = true) : 0 ≤ z ∧ z ≤ 60 := by
 have h1 := recL_len (d ++ p)
 have := (logB_parts h).2.2
 omega
abbrev logV (d p : ByteArray) (z : Int) : Value := .agg #[.string d, .string p, .int .i64 z]
end Go.Proofs.Ytclihlihaigddaa
namespace Go.Proofs.Ytclihlihaigddaa
open Go.RowKit
set_option linter.unusedVariables false
set_option linter.unusedSimpArgs false
abbrev CR := ByteArray × ByteArray
def recCells (r : CR) : List Value := [.string r.1, .string r.2]
def recsV (l : List CR) : List Value := l.flatMap recCells
theorem recsV_len (l : List CR) : (recsV l).length = l.length * 2 := flat_len recCells 2 (fun _ => rfl) l
theorem recsV_snoc (l : List CR) (r : CR) : recsV (l ++ [r]) = recsV l ++ [.string r.1, .string r.2] := by simp [recsV, recCells]
theorem info_rec : (Try.prog.info? 66).map (fun i => (i.zero, i.size, i.bytes)) = some (some (.agg #[.string ⟨#[]⟩, .string ⟨#[]⟩]), 2, 32) := by kernel_rfl
def SplitRet2 (w : World) (s : ByteArray) (b : UInt8) (e : Ending) (w' : World) : Prop :=
 ∃ g c, e = .returned (.slice (some ⟨g, 0, none⟩) (oneB s b) c) ∧ w'.cell? ⟨g, 0, none⟩ = some (.string (cutB s b)) ∧ w.heap.size ≤ g ∧ 1 ≤ oneB s b ∧ oneB s b ≤ s.size + 1 ∧ Below w.heap.size w w'
theorem l1Split_ret2 (s : ByteArray) (b : UInt8) (w : World) (hs : s.size ≤ 16777216) : Calls Try.prog 98 #[.string s, .int .u8 (b.toNat : Int)] w (SplitRet2 w s b) := by
 refine (l1Split_any s b w hs).mono ?_
 rintro e w' ⟨A, c, rfl, hown, hb⟩
 have hpos : 1 ≤ (splitL b (bl s)).length := by rw [splitL_len]; omega
 obtain ⟨g, cap, hv, hbg, hglt⟩ := hown.form (by omega)
 injection hv with hA _ hcap
 subst hA hcap
 refine ⟨g, c, rfl, ?_, hbg, hpos, splitL_size s b, hb⟩
 rw [hown.cellAt 0 (by omega)]
 simp [strsV, splitL_head, cutB]
/-- a slice of records and a number -/
def RetOpen (w : World) (l : List CR) (z : Nat) (e : Ending) (w' : World) : Prop :=
 ∃ A c, e = .returned (.tuple #[.slice A l.length c, .int .i64 z]) ∧ w'.ownsRow w.heap.size 66 2 (.slice A l.length c) l.length (recsV l) ∧ Below w.heap.size w w'
theorem recF_yes {s : ByteArray} {f a k : Nat} (h : stepB s a k = true) : recF s (f + 1) a k = ((dC k (ln s a), dR k (ln s a)) :: (recF s f (lnEnd s a + 1) (k + 1)).1, (recF s f (lnEnd s a + 1) (k + 1)).2) := by simp [recF, h]
theorem recF_no {s : ByteArray} {f a k : Nat} (h : stepB s a k = false) : recF s f a k = ([], a) := by cases f <;> simp [recF, h]
/-- where the loop stands: what is read, and what is left to read -/
def Stand (s : ByteArray) (k a : Nat) (L : List CR) : Prop := k ≤ 60 ∧ a ≤ s.size ∧ L.length = k ∧ L ++ (recF s (60 - k) a k).1 = recL s ∧ (recF s (60 - k) a k).2 = recE s
theorem stand_start (s : ByteArray) : Stand s 0 0 [] := ⟨by omega, Nat.zero_le _, rfl, rfl, rfl⟩
theorem stand_next {s : ByteArray} {k a : Nat} {L : List CR} (h : Stand s k a L) (hk : k < 60) (hs : stepB s a k = true) : Stand s (k + 1) (lnEnd s a + 1) (L ++ [(dC k (ln s a), dR k (ln s a))]) := by
 obtain ⟨h1, h2, h3, h4, h5⟩ := h
 obtain ⟨f, hf⟩ : ∃ f, 60 - k = f + 1 := ⟨59 - k, by omega⟩
 rw [hf, recF_yes hs] at h4 h5
 have he : lnEnd s a < s.size := by simp only [stepB, Bool.and_eq_true, decide_eq_true_eq] at hs; exact hs.1
 refine ⟨by omega, by omega, by simp [h3], ?_, ?_⟩
 · rw [show 60 - (k + 1) = f from by omega, ← h4]; simp
 · rw [show 60 - (k + 1) = f from by omega]; exact h5
theorem stand_end {s : ByteArray} {k a : Nat} {L : List CR} (h : Stand s k a L) (hs : stepB s a k = false ∨ k = 60) : L = recL s ∧ a = recE s := by
 obtain ⟨h1, h2, h3, h4, h5⟩ := h
 rcases hs with hs | rfl
 · rw [recF_no hs] at h4 h5
   exact ⟨by simpa using h4, h5⟩
 · exact ⟨by simpa [recF] using h4, by simpa [recF] using h5⟩
end Go.Proofs.Ytclihlihaigddaa
namespace Go.Proofs.Ytclihlihaigddaa
open Go.RowKit
set_option linter.unusedVariables false
set_option linter.unusedSimpArgs false
set_option maxRecDepth 100000 in
set_option maxHeartbeats 1000000 in
theorem l27Open_any (s : ByteArray) (w : World) (hs : s.size ≤ 6000000) : Calls Try.prog 133 #[.string s] w (RetOpen w (recL s) (recE s)) := by
 obtain ⟨i0, ji, jz0, jz1, jz2⟩ := info_parts info_rec
 go_enter Try.func133, Try.ntmps133
 go_wp2
 have ho := own_lit0 w 66 2
 go_loopw [4, 5] (fun v i wr => ∃ (k a : Nat) (L : List CR), Hid (Stand s k a L) ∧ k ≤ 60 ∧ a ≤ s.size ∧ i = .int .i64 a ∧ wr.ownsRow w.heap.size 66 2 v k (recsV L) ∧ Below w.heap.size w wr) (fun _ i _ => s.size - (intOf i).toNat)
 case atStart => exact ⟨0, 0, [], Lib.hid (stand_start s), by omega, Nat.zero_le _, rfl, by simpa [recsV] using ho, (by repeat (first | exact ext_refl _ | assumption | refine ext_alloc ?_ _ | refine ext_drew ?_ | refine ext_drewN ?_ _ | refine ext_set ?_ (by simp <;> omega) _ | refine ext_trans ?_ (by assumption)))⟩
 case round =>
  obtain ⟨k, a, L, hst, hk, ha, rfl, hown, hbl⟩ := hrel
  obtain ⟨A', c', rfl⟩ := own_shape hown
  by_cases hgo : a < s.size ∧ k < 60
  · obtain ⟨hgo1, hgo2⟩ := hgo
    have zY := extract_size s a s.size (Nat.le_refl _)
    obtain ⟨Y, hY⟩ : ∃ Y, s.extract a s.size = Y := ⟨_, rfl⟩
    have HY := Lib.hid hY
    rw [hY] at zY
    clear hY
    obtain ⟨Z, hZ⟩ : ∃ Z, ln s a = Z := ⟨_, rfl⟩
    have zZ : a + Z.size ≤ s.size := by have := lnEnd_le (s := s) (a := a) ha; unfold lnEnd at this; rw [hZ] at this; exact this
    have hcut : cutB Y 10 = Z := by rw [← HY.out]; exact hZ
    have HCUT := Lib.hid hcut
    have HP := Lib.hid (ln_pieces (s := s) (a := a) ha)
    rw [HY.out] at HP
    have HR := Lib.hid (fun w => read_any k Z w (by omega) (by omega))
    obtain ⟨C, hC⟩ : ∃ C, dC k Z = C := ⟨_, rfl⟩
    obtain ⟨R, hR⟩ : ∃ R, dR k Z = R := ⟨_, rfl⟩
    obtain ⟨ok, hok⟩ : ∃ ok, dOk k Z = ok := ⟨_, rfl⟩
    rw [hC, hR, hok] at HR
    have hstep : stepB s a k = (decide (a + Z.size < s.size) && ok) := by rw [stepB, lnEnd, hZ, hok]
    have hnext := Lib.hid (stand_next (s := s) (k := k) (a := a) (L := L) hst.out hgo2)
    have hstop := Lib.hid (stand_end (s := s) (k := k) (a := a) (L := L) hst.out)
    rw [hstep, lnEnd, hZ, hC, hR] at hnext
    rw [hstep] at hstop
    have hlnE : lnEnd s a = a + Z.size := by rw [lnEnd, hZ]
    rw [hlnE] at HP
    clear hcut hZ hC hR hok hstep hlnE
    go_wp2_with fail
    rw [HY.out]
    refine (l1Split_ret2 Y 10 _ (by omega)).mono ?_
    rintro e w' ⟨g, c, rfl, hcell, hg, ho1, ho2, hb1⟩
    rw [show cutB Y 10 = Z from HCUT.out] at hcell
    obtain ⟨hc1, hf1⟩ := bcell hb1
    have hz1 := hb1.size
    have m1 : k + 1 ≤ maxLen := by unfold maxLen; omega
    have m2 : (k + 1) * 32 ≤ 140737488355328 := by omega
    have m3 := hbl.size
    by_cases hnl : a + Z.size < s.size
    · have two : 2 ≤ oneB Y 10 := by
       have := mt HP.out.1 (by omega); omega
      have two' : ((oneB Y 10 : Int) < 2) = False := by simp; omega
      clear HP
      cases ok
      · go_wp2_with (go_at_call 157; refine (HR.out _).mono ?_; rintro e w' ⟨rfl, hb2⟩; obtain ⟨hc2, hf2⟩ := bcell hb2; have hz2 := hb2.size)
        go_ret2
        obtain ⟨e1, e2⟩ := hstop.out (Or.inl (by simp <;> omega))
        have e3 := hst.out.2.2.1
        refine ⟨A', c', ?_, ?_, (by repeat (first | exact ext_refl _ | assumption | refine ext_alloc ?_ _ | refine ext_drew ?_ | refine ext_drewN ?_ _ | refine ext_set ?_ (by simp <;> omega) _ | refine ext_trans ?_ (by assumption)))⟩
        · rw [← e1, ← e2, e3]; rfl
        · rw [← e1, e3]
          exact (own_ext (own_ext hown hb1) hb2).alloc _
      · go_wp2_with (first | (go_at_call 157; refine (HR.out _).mono ?_; rintro e w' ⟨rfl, hb2⟩; obtain ⟨hc2, hf2⟩ := bcell hb2; have hz2 := hb2.size) | (at_builtin; refine wpList_append_own _ rfl (.tmp 39) (.tmp 41) 62 rfl w.heap.size 66 i0 _ 2 32 Try.underlying62 ji jz0 jz1 jz2 rfl (by decide) _ _ _ rfl (((own_ext (own_ext hown hb1) hb2).alloc _).alloc _) _ 1 1 [.string C, .string R] rfl rfl (cells_new_at _ [.string C, .string R] _ (by simp)) (by simp [Value.oneCell']) m1 m2 (by simp; omega) ?_; intro v' w2 hown2 hgrow _; have hcell2 := cell_far_grown hgrow (p := ⟨g, 0, none⟩) (fun e => by have := (hown.lt g e).2; omega) (ext_cell (ext_alloc (ext_alloc (ext_refl _) _) _) (ext_cell hb2 hcell))))
        go_roundw
        case rel =>
         refine ⟨k + 1, a + Z.size + 1, L ++ [(C, R)], Lib.hid (hnext.out (by simp; omega)), by omega, by omega, by go_num, ?_, below_grown hown (by repeat (first | exact ext_refl _ | assumption | refine ext_alloc ?_ _ | refine ext_drew ?_ | refine ext_drewN ?_ _ | refine ext_set ?_ (by simp <;> omega) _ | refine ext_trans ?_ (by assumption))) hgrow⟩
         rw [recsV_snoc]
         exact hown2
        case measure => simp [intOf]; omega
    · have one : (oneB Y 10 : Int) < 2 := by
       have := HP.out.2 (by omega); omega
      clear HP
      go_wp2_with (go_at_call 157; refine (HR.out _).mono ?_; rintro e w' ⟨rfl, hb2⟩; obtain ⟨hc2, hf2⟩ := bcell hb2; have hz2 := hb2.size)
      go_ret2
      obtain ⟨e1, e2⟩ := hstop.out (Or.inl (by simp <;> omega))
      have e3 := hst.out.2.2.1
      refine ⟨A', c', ?_, ?_, (by repeat (first | exact ext_refl _ | assumption | refine ext_alloc ?_ _ | refine ext_drew ?_ | refine ext_drewN ?_ _ | refine ext_set ?_ (by simp <;> omega) _ | refine ext_trans ?_ (by assumption)))⟩
      · rw [← e1, ← e2, e3]; rfl
      · rw [← e1, e3]
        exact (own_ext (own_ext hown hb1) hb2).alloc _
  · have hE := Lib.hid (stand_end (s := s) (k := k) (a := a) (L := L) hst.out)
    go_wp2_with fail
    all_goals go_ret2
    all_goals obtain ⟨e1, e2⟩ := hE.out (by first | exact Or.inr (by omega) | exact Or.inl (by have := lnEnd_le (s := s) (a := a) ha; have : a ≤ lnEnd s a := by unfold lnEnd; omega
                                                                                               rw [stepB, decide_eq_false (by omega)]; rfl))
    all_goals have e3 := hst.out.2.2.1
    all_goals refine ⟨A', c', ?_, ?_, (by repeat (first | exact ext_refl _ | assumption | refine ext_alloc ?_ _ | refine ext_drew ?_ | refine ext_drewN ?_ _ | refine ext_set ?_ (by simp <;> omega) _ | refine ext_trans ?_ (by assumption)))⟩
    all_goals first | (rw [← e1, ← e2, e3]; rfl) | (rw [← e1, e3]; exact hown)
end Go.Proofs.Ytclihlihaigddaa
namespace Go.Proofs.Ytclihlihaigddaa
open Go.RowKit
set_option linter.unusedVariables false
set_option linter.unusedSimpArgs false
theorem ln_hit' {s : ByteArray} {a j : Nat} (h : lnEnd s a = j) (hj : j < s.size) : s[j] = 10 := by subst h; exact ln_hit hj
set_option maxRecDepth 100000 in
set_option maxHeartbeats 1000000 in
theorem recovered_any (s : ByteArray) (w : World) (hs : s.size ≤ 6000000) : Calls Try.prog 106 #[.string s] w (RetOpen w (recL s) (recE s)) := by
 obtain ⟨i0, ji, jz0, jz1, jz2⟩ := info_parts info_rec
 go_enter Try.func106, Try.ntmps106
 go_wp2
 have ho := World.ownsRow_nil w w.heap.size 66 2
 go_loopw [4, 5] (fun v i wr => ∃ (k a : Nat) (L : List CR), Hid (Stand s k a L) ∧ k ≤ 60 ∧ a ≤ s.size ∧ i = .int .i64 a ∧ wr.ownsRow w.heap.size 66 2 v k (recsV L) ∧ Below w.heap.size w wr) (fun _ i _ => s.size - (intOf i).toNat)
 case atStart => exact ⟨0, 0, [], Lib.hid (stand_start s), by omega, Nat.zero_le _, rfl, by simpa [recsV] using ho, (by repeat (first | exact ext_refl _ | assumption | refine ext_alloc ?_ _ | refine ext_drew ?_ | refine ext_drewN ?_ _ | refine ext_set ?_ (by simp <;> omega) _ | refine ext_trans ?_ (by assumption)))⟩
 case round =>
  obtain ⟨k, a, L, hst, hk, ha, rfl, hown, hbl⟩ := hrel
  obtain ⟨A', c', rfl⟩ := own_shape hown
  by_cases hgo : k < 60
  · obtain ⟨Z, hZ⟩ : ∃ Z, ln s a = Z := ⟨_, rfl⟩
    have zZ : a + Z.size ≤ s.size := by have := lnEnd_le (s := s) (a := a) ha; unfold lnEnd at this; rw [hZ] at this; exact this
    have hmiss := Lib.hid (fun j h1 h2 hj => ln_miss (s := s) (a := a) (j := j) h1 h2 hj)
    have HLE := Lib.hid (show lnEnd s a = a + Z.size by rw [lnEnd, hZ])
    go_wp2
    go_loopw [6] (fun j wx => ∃ m : Nat, j = .int .i64 m ∧ a ≤ m ∧ m ≤ a + Z.size ∧ wx = wr) (fun j _ => s.size - (intOf j).toNat)
    case atStart => exact ⟨a, rfl, by omega, by omega, rfl⟩
    case round =>
     rename_i hrel
     obtain ⟨m, rfl, hm1, hm2, rfl⟩ := hrel
     by_cases hm : m = a + Z.size
     · have HM := Lib.hid (show lnEnd s a = m by rw [HLE.out, hm])
       clear hm
       by_cases hnl : m < s.size
       · have hd : ((s[m].toNat : Int) == 10) = true := by
          have h2 : s[m] = 10 := ln_hit' HM.out hnl
          rw [h2]; rfl
         have hY : s.extract a m = Z := by rw [← HM.out, ln_extract, hZ]
         have HY := Lib.hid hY
         have HR := Lib.hid (fun w => decode_any k Z w (by omega) (by omega))
         obtain ⟨C, hC⟩ : ∃ C, dC k Z = C := ⟨_, rfl⟩
         obtain ⟨R, hR⟩ : ∃ R, dR k Z = R := ⟨_, rfl⟩
         obtain ⟨ok, hok⟩ : ∃ ok, dOk k Z = ok := ⟨_, rfl⟩
         rw [hC, hR, hok] at HR
         have hstep : stepB s a k = ok := by rw [stepB, HM.out, hZ, hok]; simp [hnl]
         have hnext := Lib.hid (stand_next (s := s) (k := k) (a := a) (L := L) hst.out hgo)
         have hstop := Lib.hid (stand_end (s := s) (k := k) (a := a) (L := L) hst.out)
         rw [hstep, HM.out, hZ, hC, hR] at hnext
         rw [hstep] at hstop
         clear hY hZ hC hR hok hstep
         go_wp2_with fail
         rw [HY.out]
         refine (HR.out _).mono ?_
         rintro e w' ⟨rfl, hb2⟩
         obtain ⟨hc2, hf2⟩ := bcell hb2
         have hz2 := hb2.size
         have m1 : k + 1 ≤ maxLen := by unfold maxLen; omega
         have m2 : (k + 1) * 32 ≤ 140737488355328 := by omega
         have m3 := hbl.size
         cases ok
         · go_wp2_with fail
           go_ret2
           obtain ⟨e1, e2⟩ := hstop.out (by simp)
           have e3 := hst.out.2.2.1
           refine ⟨A', c', ?_, ?_, (by repeat (first | exact ext_refl _ | assumption | refine ext_alloc ?_ _ | refine ext_drew ?_ | refine ext_drewN ?_ _ | refine ext_set ?_ (by simp <;> omega) _ | refine ext_trans ?_ (by assumption)))⟩
           · rw [← e1, ← e2, e3]; rfl
           · rw [← e1, e3]
             exact (own_ext hown hb2).alloc _
         · go_wp2_with (at_builtin; refine wpList_append_own _ rfl (.tmp 43) (.tmp 45) 62 rfl w.heap.size 66 i0 _ 2 32 Try.underlying62 ji jz0 jz1 jz2 rfl (by decide) _ _ _ rfl (((own_ext hown hb2).alloc _).alloc _) _ 1 1 [.string C, .string R] rfl rfl (cells_new_at _ [.string C, .string R] _ (by simp)) (by simp [Value.oneCell']) m1 m2 (by simp; omega) ?_; intro v' w2 hown2 hgrow _)
           go_roundw
           case rel =>
            have h4 : a + (Z.size + 1) = m + 1 := by have := HM.out; rw [HLE.out] at this; omega
            refine ⟨k + 1, m + 1, L ++ [(C, R)], Lib.hid (hnext.out (by simp)), by omega, by omega, ?_, ?_, below_grown hown (by repeat (first | exact ext_refl _ | assumption | refine ext_alloc ?_ _ | refine ext_drew ?_ | refine ext_drewN ?_ _ | refine ext_set ?_ (by simp <;> omega) _ | refine ext_trans ?_ (by assumption))) hgrow⟩
            · rw [← h4]; go_num
            · rw [recsV_snoc]
              exact hown2
           case measure => simp [intOf]; omega
       · have hE : m = s.size := by omega
         have hE2 := Lib.hid (stand_end (s := s) (k := k) (a := a) (L := L) hst.out)
         have hno := Lib.hid (show stepB s a k = false by rw [stepB, HM.out, decide_eq_false hnl]; rfl)
         go_wp2_with fail
         go_ret2
         obtain ⟨e1, e2⟩ := hE2.out (Or.inl hno.out)
         have e3 := hst.out.2.2.1
         refine ⟨A', c', ?_, ?_, (by repeat (first | exact ext_refl _ | assumption | refine ext_alloc ?_ _ | refine ext_drew ?_ | refine ext_drewN ?_ _ | refine ext_set ?_ (by simp <;> omega) _ | refine ext_trans ?_ (by assumption)))⟩
         · rw [← e1, ← e2, e3]; rfl
         · rw [← e1, e3]
           exact hown
     · have hms : m < s.size := by omega
       have hd : ((s[m].toNat : Int) == 10) = false := by
        rw [beq_eq_false_iff_ne]
        intro e
        exact hmiss.out m hm1 (by rw [HLE.out]; omega) hms (UInt8.toNat_inj.1 (by have : (10 : UInt8).toNat = 10 := rfl; omega))
       go_wp2
       go_roundw
       case rel => exact ⟨m + 1, by go_num, by omega, by omega, trivial⟩
       case measure => simp [intOf]; omega
  · have hE := Lib.hid (stand_end (s := s) (k := k) (a := a) (L := L) hst.out)
    go_wp2_with fail
    go_ret2
    obtain ⟨e1, e2⟩ := hE.out (Or.inr (by omega))
    have e3 := hst.out.2.2.1
    refine ⟨A', c', ?_, ?_, (by repeat (first | exact ext_refl _ | assumption | refine ext_alloc ?_ _ | refine ext_drew ?_ | refine ext_drewN ?_ _ | refine ext_set ?_ (by simp <;> omega) _ | refine ext_trans ?_ (by assumption)))⟩
    · rw [← e1, ← e2, e3]; rfl
    · rw [← e1, e3]; exact hown
end Go.Proofs.Ytclihlihaigddaa
namespace Go.Proofs.Ytclihlihaigddaa
open Go.RowKit
set_option linter.unusedVariables false
set_option linter.unusedSimpArgs false
theorem logB_of (d p : ByteArray) (z : Int) {E F N : Nat} (hE : recE (d ++ p) = E) (hF : recE d = F) (hN : (recL (d ++ p)).length = N) :
 logB d p z = (decide ((E : Int) = d.size + p.size) && decide ((F : Int) = d.size) && decide (z = (N : Int))) := by
 unfold logB; rw [hE, hF, hN]
theorem beq_cases (a b : Int) : ((a == b) = true ∧ decide (a = b) = true) ∨ ((a == b) = false ∧ decide (a = b) = false) := by
 by_cases h : a = b
 · exact .inl ⟨by simpa using h, by simpa using h⟩
 · exact .inr ⟨by simpa using h, by simpa using h⟩

set_option maxHeartbeats 1000000 in
theorem isValidLog_any (d p : ByteArray) (z : Int) (w : World) (hd : d.size ≤ 2000000) (hp : p.size ≤ 2000000) :
 Calls Try.prog 84 #[logV d p z] w fun e w' => e = .returned (.bool (logB d p z)) ∧ Below w.heap.size w w' := by
 have zdp : (d ++ p).size = d.size + p.size := ByteArray.size_append
 skip
 have H1 := Lib.hid (fun w => recovered_any (d ++ p) w (by omega))
 have H2 := Lib.hid (fun w => recovered_any d w (by omega))
 have e1 := recE_le (d ++ p)
 have e2 := recE_le d
 have e3 := recL_len (d ++ p)
 obtain ⟨E, hE⟩ : ∃ E, recE (d ++ p) = E := ⟨_, rfl⟩
 obtain ⟨F, hF⟩ : ∃ F, recE d = F := ⟨_, rfl⟩
 have hB := Lib.hid (logB_of d p z hE hF rfl)
 rw [hE] at H1 e1
 rw [hF] at H2 e2
 obtain ⟨L, hL⟩ : ∃ L, recL (d ++ p) = L := ⟨_, rfl⟩
 rw [hL] at H1 e3 hB
 obtain ⟨N, hN⟩ : ∃ N, L.length = N := ⟨_, rfl⟩
 unfold RetOpen at H1
 rw [hN] at H1 e3 hB
 rw [hB.out]
 clear hE hF hL hN hB zdp
 go_enter Try.func84, Try.ntmps84
 go_wp2_with fail
 refine (H1.out _).mono ?_
 rintro e w1 ⟨A1, c1, rfl, _, hb1⟩
 obtain ⟨hc1, hf1⟩ := bcell hb1
 have hz1 : w.heap.size < w1.heap.size := by have := hb1.size; simp at this; omega
 go_wp2_with fail
 refine (H2.out _).mono ?_
 rintro e w2 ⟨A2, c2, rfl, _, hb2⟩
 obtain ⟨hc2, hf2⟩ := bcell hb2
 have hz2 : w.heap.size < w2.heap.size := by have := hb2.size; omega
 rcases beq_cases (E : Int) (d.size + p.size) with ⟨k1, t1⟩ | ⟨k1, t1⟩
 · have T1 := Lib.hid t1
   clear t1
   rcases beq_cases (F : Int) d.size with ⟨k2, t2⟩ | ⟨k2, t2⟩
   all_goals have T2 := Lib.hid t2
   all_goals clear t2
   all_goals go_wp2
   all_goals go_ret
   all_goals refine ⟨ret_bool ?_, (by repeat (first | exact ext_refl _ | assumption | refine ext_alloc ?_ _ | refine ext_drew ?_ | refine ext_drewN ?_ _ | refine ext_set ?_ (by simp <;> omega) _ | refine ext_trans ?_ (by assumption)))⟩
   all_goals rw [T1.out, T2.out]
   all_goals first | rfl | simp
   all_goals first | rfl | (rw [Bool.eq_iff_iff]; simp; omega)
 · have T1 := Lib.hid t1
   clear t1
   go_wp2
   go_ret
   refine ⟨ret_bool ?_, (by repeat (first | exact ext_refl _ | assumption | refine ext_alloc ?_ _ | refine ext_drew ?_ | refine ext_drewN ?_ _ | refine ext_set ?_ (by simp <;> omega) _ | refine ext_trans ?_ (by assumption)))⟩
   rw [T1.out]
   first | rfl | simp

set_option maxHeartbeats 1000000 in
theorem l27Log_small (d p : ByteArray) (z : Int) (w : World) (hd : d.size ≤ 2000000) (hp : p.size ≤ 2000000) :
 Calls Try.prog 88 #[logV d p z] w fun e w' => e = .returned (.bool (logB d p z)) ∧ Below w.heap.size w w' := by
 have zdp : (d ++ p).size = d.size + p.size := ByteArray.size_append
 by_cases hbig : (30000 : Int) < (d.size : Int) + (p.size : Int)
 · have hno : logB d p z = false := by rw [Bool.eq_false_iff]; intro h; have := logB_size h; omega
   rw [hno]
   clear hno zdp
   go_enter Try.func88, Try.ntmps88
   go_wp2
   go_ret
   exact ⟨rfl, (by repeat (first | exact ext_refl _ | assumption | refine ext_alloc ?_ _ | refine ext_drew ?_ | refine ext_drewN ?_ _ | refine ext_set ?_ (by simp <;> omega) _ | refine ext_trans ?_ (by assumption)))⟩
 have H1 := Lib.hid (fun w => l27Open_any (d ++ p) w (by omega))
 have H2 := Lib.hid (fun w => l27Open_any d w (by omega))
 have e1 := recE_le (d ++ p)
 have e2 := recE_le d
 have e3 := recL_len (d ++ p)
 obtain ⟨E, hE⟩ : ∃ E, recE (d ++ p) = E := ⟨_, rfl⟩
 obtain ⟨F, hF⟩ : ∃ F, recE d = F := ⟨_, rfl⟩
 have hB := Lib.hid (logB_of d p z hE hF rfl)
 rw [hE] at H1 e1
 rw [hF] at H2 e2
 obtain ⟨L, hL⟩ : ∃ L, recL (d ++ p) = L := ⟨_, rfl⟩
 rw [hL] at H1 e3 hB
 obtain ⟨N, hN⟩ : ∃ N, L.length = N := ⟨_, rfl⟩
 unfold RetOpen at H1
 rw [hN] at H1 e3 hB
 rw [hB.out]
 clear hE hF hL hN hB zdp
 go_enter Try.func88, Try.ntmps88
 go_wp2_with fail
 refine (H1.out _).mono ?_
 rintro e w1 ⟨A1, c1, rfl, _, hb1⟩
 obtain ⟨hc1, hf1⟩ := bcell hb1
 have hz1 : w.heap.size < w1.heap.size := by have := hb1.size; simp at this; omega
 go_wp2_with fail
 refine (H2.out _).mono ?_
 rintro e w2 ⟨A2, c2, rfl, _, hb2⟩
 obtain ⟨hc2, hf2⟩ := bcell hb2
 have hz2 : w.heap.size < w2.heap.size := by have := hb2.size; omega
 rcases beq_cases (E : Int) (d.size + p.size) with ⟨k1, t1⟩ | ⟨k1, t1⟩
 · have T1 := Lib.hid t1
   clear t1
   rcases beq_cases (F : Int) d.size with ⟨k2, t2⟩ | ⟨k2, t2⟩
   all_goals have T2 := Lib.hid t2
   all_goals clear t2
   all_goals go_wp2
   all_goals go_ret
   all_goals refine ⟨ret_bool ?_, (by repeat (first | exact ext_refl _ | assumption | refine ext_alloc ?_ _ | refine ext_drew ?_ | refine ext_drewN ?_ _ | refine ext_set ?_ (by simp <;> omega) _ | refine ext_trans ?_ (by assumption)))⟩
   all_goals rw [T1.out, T2.out]
   all_goals first | rfl | simp
   all_goals first | rfl | (rw [Bool.eq_iff_iff]; simp; omega)
 · have T1 := Lib.hid t1
   clear t1
   go_wp2
   go_ret
   refine ⟨ret_bool ?_, (by repeat (first | exact ext_refl _ | assumption | refine ext_alloc ?_ _ | refine ext_drew ?_ | refine ext_drewN ?_ _ | refine ext_set ?_ (by simp <;> omega) _ | refine ext_trans ?_ (by assumption)))⟩
   rw [T1.out]
   first | rfl | simp
end Go.Proofs.Ytclihlihaigddaa
namespace Go.Proofs.Ytclihlihaigddaa
open Go.RowKit
set_option linter.unusedVariables false
set_option linter.unusedSimpArgs false
def syncD (d p : ByteArray) (z : Int) : ByteArray := if logB d p z = true then d ++ p else ⟨#[]⟩
def syncZ (d p : ByteArray) (z : Int) : Int := if logB d p z = true then z else 0
def rcvD (s : ByteArray) : ByteArray := if s.size ≤ 30000 then s.extract 0 (recE s) else ⟨#[]⟩
def rcvN (s : ByteArray) : Nat := if s.size ≤ 30000 then (recL s).length else 0
def rcvE (s : ByteArray) : Nat := if s.size ≤ 30000 then recE s else 0
/-- what appending makes of the pending bytes and of the count, and its code -/
def appOk (d p : ByteArray) (z : Int) (c r : ByteArray) : Bool := logB d p z && recB c r
def appP (d p : ByteArray) (z : Int) (c r : ByteArray) : ByteArray := if appOk d p z c r = true ∧ z ≠ 60 then p ++ lineB z c r else p
def appZ (d p : ByteArray) (z : Int) (c r : ByteArray) : Int := if appOk d p z c r = true ∧ z ≠ 60 then z + 1 else z
def appC (d p : ByteArray) (z : Int) (c r : ByteArray) : Int := if appOk d p z c r = true then (if z = 60 then 2 else 0) else 1
theorem app_cases (d p : ByteArray) (z : Int) (c r : ByteArray) (P : ByteArray → Int → Int → Prop) (h1 : logB d p z = false → P p z 1) (h2 : logB d p z = true → recB c r = false → P p z 1)
 (h3 : logB d p z = true → recB c r = true → z = 60 → P p z 2) (h4 : logB d p z = true → recB c r = true → 0 ≤ z → z ≤ 59 → P (p ++ lineB z c r) (z + 1) 0) : P (appP d p z c r) (appZ d p z c r) (appC d p z c r) := by
 rcases hl : logB d p z with _ | _
 · simpa [appP, appZ, appC, appOk, hl] using h1 hl
 · rcases hr : recB c r with _ | _
   · simpa [appP, appZ, appC, appOk, hl, hr] using h2 hl hr
   · by_cases hz : z = 60
     · rw [show appP d p z c r = p from by simp [appP, hz], show appZ d p z c r = z from by simp [appZ, hz], show appC d p z c r = 2 from by rw [appC, appOk, hl, hr, if_pos (by rfl), if_pos hz]]
       exact h3 hl hr hz
     · have := logB_count hl
       simpa [appP, appZ, appC, appOk, hl, hr, hz] using h4 hl hr this.1 (by omega)

theorem specSync_any (d p : ByteArray) (z : Int) (w : World) (hd : d.size ≤ 2000000) (hp : p.size ≤ 2000000) :
 Calls Try.prog 170 #[logV d p z] w fun e w' => e = .returned (.tuple #[logV (syncD d p z) ⟨#[]⟩ (syncZ d p z), .bool (logB d p z)]) ∧ Below w.heap.size w w' := by
 have HV := Lib.hid (fun w => l27Log_small d p z w hd hp)
 rcases hb : logB d p z with _ | _
 · rw [show syncD d p z = ⟨#[]⟩ from by simp [syncD, hb], show syncZ d p z = 0 from by simp [syncZ, hb]]
   rw [hb] at HV
   clear hb
   go_enter Try.func170, Try.ntmps170
   go_wp2_with (go_at_call 88; refine (HV.out _).mono ?_; rintro e w' ⟨rfl, hb⟩; obtain ⟨hc, hf⟩ := bcell hb; have hz : w.heap.size < w'.heap.size := by (have := hb.size; (try simp at this); omega))
   refine bodyPost_ret (v := .tuple #[logV ⟨#[]⟩ ⟨#[]⟩ 0, .bool false]) (by simp [results, Try.results170, go_sem, hc, hf, hz]) rfl ⟨rfl, (by repeat (first | exact ext_refl _ | assumption | refine ext_alloc ?_ _ | refine ext_drew ?_ | refine ext_drewN ?_ _ | refine ext_set ?_ (by simp <;> omega) _ | refine ext_trans ?_ (by assumption)))⟩
 · rw [show syncD d p z = d ++ p from by simp [syncD, hb], show syncZ d p z = z from by simp [syncZ, hb]]
   rw [hb] at HV
   clear hb
   go_enter Try.func170, Try.ntmps170
   go_wp2_with (go_at_call 88; refine (HV.out _).mono ?_; rintro e w' ⟨rfl, hb⟩; obtain ⟨hc, hf⟩ := bcell hb; have hz : w.heap.size < w'.heap.size := by (have := hb.size; (try simp at this); omega))
   refine bodyPost_ret (v := .tuple #[logV (d ++ p) ⟨#[]⟩ z, .bool true]) (by simp [results, Try.results170, go_sem, hc, hf, hz]) rfl ⟨rfl, (by repeat (first | exact ext_refl _ | assumption | refine ext_alloc ?_ _ | refine ext_drew ?_ | refine ext_drewN ?_ _ | refine ext_set ?_ (by simp <;> omega) _ | refine ext_trans ?_ (by assumption)))⟩

end Go.Proofs.Ytclihlihaigddaa
namespace Go.Proofs.Ytclihlihaigddaa
open Go.RowKit
set_option linter.unusedVariables false
set_option linter.unusedSimpArgs false
theorem szLog_any (left : Int) (d p : ByteArray) (z : Int) (w : World) (hd : d.size ≤ 9223372036854775807) (hp : p.size ≤ 9223372036854775807) (h0 : 0 ≤ left) (h1 : left ≤ 1048576) :
 Calls Try.prog 26 #[logV d p z, .int .i64 left] w fun e w' => e = .returned (.int .i64 (szRec left d p)) ∧ Below w.heap.size w w' := by
 unfold szRec
 by_cases a1 : left - (d.size : Int) < 0
 · rw [if_pos a1]
   go_enter Try.func26, Try.ntmps26
   go_wp2
   go_ret
   exact ⟨rfl, (by repeat (first | exact ext_refl _ | assumption | refine ext_alloc ?_ _ | refine ext_drew ?_ | refine ext_drewN ?_ _ | refine ext_set ?_ (by simp <;> omega) _ | refine ext_trans ?_ (by assumption)))⟩
 · rw [if_neg a1]
   by_cases a2 : left - (d.size : Int) - (p.size : Int) < 0
   · rw [if_pos a2]
     go_enter Try.func26, Try.ntmps26
     go_wp2
     go_ret
     exact ⟨rfl, (by repeat (first | exact ext_refl _ | assumption | refine ext_alloc ?_ _ | refine ext_drew ?_ | refine ext_drewN ?_ _ | refine ext_set ?_ (by simp <;> omega) _ | refine ext_trans ?_ (by assumption)))⟩
   · rw [if_neg a2]
     go_enter Try.func26, Try.ntmps26
     go_wp2
     go_ret
     exact ⟨rfl, (by repeat (first | exact ext_refl _ | assumption | refine ext_alloc ?_ _ | refine ext_drew ?_ | refine ext_drewN ?_ _ | refine ext_set ?_ (by simp <;> omega) _ | refine ext_trans ?_ (by assumption)))⟩
theorem toLog_any (d p : ByteArray) (z : Int) (w : World) :
 Calls Try.prog 28 #[logV d p z] w fun e w' => e = .returned (logV d p z) ∧ Below w.heap.size w w' := by
 go_enter Try.func28, Try.ntmps28
 go_wp2
 refine bodyPost_ret (v := logV d p z) (by simp [results, Try.results28, go_sem]) rfl ⟨rfl, (by repeat (first | exact ext_refl _ | assumption | refine ext_alloc ?_ _ | refine ext_drew ?_ | refine ext_drewN ?_ _ | refine ext_set ?_ (by simp <;> omega) _ | refine ext_trans ?_ (by assumption)))⟩
theorem eqLog_same (d p : ByteArray) (z : Int) (w : World) :
 Calls Try.prog 82 #[logV d p z, logV d p z] w fun e w' => e = .returned (.bool true) ∧ Below w.heap.size w w' := by
 go_enter Try.func82, Try.ntmps82
 go_wp2
 go_ret
 exact ⟨rfl, (by repeat (first | exact ext_refl _ | assumption | refine ext_alloc ?_ _ | refine ext_drew ?_ | refine ext_drewN ?_ _ | refine ext_set ?_ (by simp <;> omega) _ | refine ext_trans ?_ (by assumption)))⟩
/-- the text of a mark -/
def mkT (k : Nat) : ByteArray := ⟨#[109]⟩ ++ dec k
theorem markText_any (k : Nat) (w : World) (h1 : 1 ≤ k) (hb : k ≤ 9223372036854775807) :
 Calls Try.prog 100 #[.int .i64 k] w fun e w' => e = .returned (.string (mkT k)) ∧ Below w.heap.size w w' := by
 have hend : Hid (mkT k = ⟨#[109]⟩ ++ dec k) := Lib.hid rfl
 rw [hend.out]
 go_enter Try.func100, Try.ntmps100
 go_wp2
 go_loopw [0, 3] (fun i o wr => ∃ (m : Nat) (s : ByteArray), m ≤ 9223372036854775807 ∧ s.size ≤ 20 ∧ i = .int .i64 m ∧ o = .string s ∧ Below w.heap.size w wr ∧ Hid (if m = 0 then s = dec k else dec m ++ s = dec k)) (fun i _ _ => (intOf i).toNat)
 case atStart => exact ⟨k, ⟨#[]⟩, hb, by simp [lit_size], rfl, rfl, ext_refl _, Lib.hid (by rw [if_neg (by omega)]; apply ByteArray.ext; simp)⟩
 case round =>
  obtain ⟨m, s, hm, hs, rfl, rfl, hbl, heq⟩ := hrel
  by_cases h0 : 0 < m
  · have hcv := run_one_byte (P := Try.prog) wr Try.underlying59 Try.underlying5 Try.underlying9 (m % 10)
    rw [show (((m % 10 : Nat)) : Int) = (m : Int) % 10 from by omega] at hcv
    have E : Hid (if m / 10 = 0 then (⟨#[dig (m % 10)]⟩ : ByteArray) ++ s = dec k else dec (m / 10) ++ (⟨#[dig (m % 10)]⟩ ++ s) = dec k) := by
     have h2 := heq.out
     rw [if_neg (by omega)] at h2
     apply Lib.hid
     by_cases h10 : m < 10
     · rw [if_pos (by omega), ← h2, dec_small h10, Nat.mod_eq_of_lt h10]
     · rw [if_neg (by omega), ← h2, dec_step (by omega) hm, ByteArray.append_assoc]
    have hs2 : ((⟨#[dig (m % 10)]⟩ : ByteArray) ++ s).size ≤ 20 := by
     have h2 := E.out
     have h3 := dec_size k
     split at h2
     · rw [h2]; exact h3
     · rw [← h2, ByteArray.size_append] at h3; omega
    go_wp2
    go_roundw
    case rel => exact ⟨m / 10, ⟨#[dig (m % 10)]⟩ ++ s, by omega, hs2, by go_num, rfl, (by repeat (first | exact ext_refl _ | assumption | refine ext_alloc ?_ _ | refine ext_drew ?_ | refine ext_drewN ?_ _ | refine ext_set ?_ (by simp <;> omega) _ | refine ext_trans ?_ (by assumption))), E⟩
    case measure => simp [intOf]; omega
  · have h2 := heq.out
    rw [if_pos (by omega)] at h2
    have H2 := Lib.hid h2
    clear h2
    go_wp2
    go_ret
    exact ⟨by rw [H2.out]; rfl, (by repeat (first | exact ext_refl _ | assumption | refine ext_alloc ?_ _ | refine ext_drew ?_ | refine ext_drewN ?_ _ | refine ext_set ?_ (by simp <;> omega) _ | refine ext_trans ?_ (by assumption)))⟩
end Go.Proofs.Ytclihlihaigddaa
namespace Go.Proofs.Ytclihlihaigddaa
open Go.RowKit
set_option linter.unusedVariables false
set_option linter.unusedSimpArgs false
abbrev conV (day : Int) (A : Option Addr) (n c : Nat) (pa le : Int) (d p : ByteArray) (z : Int) : Value := .agg #[.int .i64 day, .slice A n c, .int .i64 pa, .int .i64 le, .string d, .string p, .int .i64 z]
set_option maxHeartbeats 1000000 in
theorem eqConsole_same (day pa le : Int) (d p : ByteArray) (z : Int) (A B : Option Addr) (n c c' : Nat) (l : List R5) (w : World) (hn : n ≤ 1048576) (h : Reads w w.heap.size 5 A n (rowsV l)) (h' : Reads w w.heap.size 5 B n (rowsV l)) :
 Calls Try.prog 17 #[conV day A n c pa le d p z, conV day B n c' pa le d p z] w fun e w' => e = .returned (.bool true) ∧ Below w.heap.size w w' := by
 have HE := Lib.hid (fun (w : World) h h' => eqSchool_same day pa le A B n c c' l w hn h h')
 have HG := Lib.hid (fun w => eqLog_same d p z w)
 have H := Lib.hid h
 have H' := Lib.hid h'
 clear h h'
 go_enter Try.func17, Try.ntmps17
 go_wp2_with fail
 refine (HE.out _ ((H.out.ext (ext_alloc (ext_alloc (ext_refl _) _) _) (Nat.le_refl _)).more (by simp; omega)) ((H'.out.ext (ext_alloc (ext_alloc (ext_refl _) _) _) (Nat.le_refl _)).more (by simp; omega))).mono ?_
 rintro e w1 ⟨rfl, hb1⟩
 obtain ⟨hc1, hf1⟩ := bcell hb1
 have z1 : w.heap.size + 1 < w1.heap.size := by (have := hb1.size; simp at this; omega)
 have z2 : w.heap.size < w1.heap.size := by omega
 have b1 := Lib.hid (ext_trans (ext_alloc (ext_alloc (ext_refl w) _) _) hb1)
 clear hb1
 go_wp2_with fail
 refine (HG.out _).mono ?_
 rintro e w2 ⟨rfl, hb2⟩
 have b2 := Lib.hid (ext_trans b1.out hb2)
 clear hb2
 go_wp2
 go_ret
 exact ⟨rfl, b2.out⟩
theorem markConsole_any (day pa le : Int) (d p : ByteArray) (z : Int) (A : Option Addr) (n c base : Nat) (xs : List Value) (k0 : Int) (w : World) (hn : n ≤ 100000000) (h0 : 0 ≤ k0) (h1 : k0 ≤ 1000000000) (h : w.ownsRow base 109 5 (.slice A n c) n xs) :
 Calls Try.prog 18 #[conV day A n c pa le d p z, .int .i64 k0] w fun e w' => e = .returned (.int .i64 (k0 + (n : Int) * 5)) ∧ w'.ownsRow base 109 5 (.slice A n c) n (marks k0 (n * 5)) ∧ w.grownBy w' (Value.ownBlock (.slice A n c)) := by
 have H := Lib.hid h
 clear h
 go_enter Try.func18, Try.ntmps18
 go_wp2_with fail
 refine (markSchool_any day pa le A n c base xs k0 _ hn h0 h1 (own_ext H.out (ext_alloc (ext_refl _) _))).mono ?_
 rintro e w1 ⟨rfl, h1, h2⟩
 have h1 := Lib.hid h1
 have h2 := Lib.hid (gr_alloc2 h2)
 go_wp2
 go_ret
 exact ⟨rfl, h1.out, h2.out⟩
theorem heldConsole_any (day pa le : Int) (d p : ByteArray) (z : Int) (A : Option Addr) (n c : Nat) (k0 : Int) (w : World) (hn : n ≤ 100000000) (h0 : 0 ≤ k0) (h1 : k0 ≤ 1000000000) (h : Reads w w.heap.size 5 A n (marks k0 (n * 5))) :
 Calls Try.prog 19 #[conV day A n c pa le d p z, .int .i64 k0] w fun e w' => e = .returned (.int .i64 (k0 + (n : Int) * 5)) ∧ Below w.heap.size w w' := by
 have H := Lib.hid h
 have hneg : ¬ k0 + (n : Int) * 5 < 0 := by omega
 clear h
 go_enter Try.func19, Try.ntmps19
 go_wp2_with fail
 refine (heldSchool_any day pa le A n c k0 _ hn h0 h1 ((H.out.ext (ext_alloc (ext_refl _) _) (Nat.le_refl _)).more (by simp))).mono ?_
 rintro e w1 ⟨rfl, hb1⟩
 have b1 := Lib.hid (ext_trans (ext_alloc (ext_refl w) _) hb1)
 clear hb1
 go_wp2
 go_ret
 exact ⟨rfl, b1.out⟩
def OwnCon (day pa le : Int) (d p : ByteArray) (z : Int) (n : Nat) (l : List R5) (w : World) (e : Ending) (w' : World) : Prop :=
 ∃ A' c', e = .returned (conV day A' n c' pa le d p z) ∧ w'.ownsRow w.heap.size 109 5 (.slice A' n c') n (rowsV l) ∧ Below w.heap.size w w'
set_option maxHeartbeats 1000000 in
theorem toConsole_any (day pa le : Int) (d p : ByteArray) (z : Int) (A : Option Addr) (n c : Nat) (l : List R5) (w : World) (hn : n ≤ 1048576) (h : Reads w w.heap.size 5 A n (rowsV l)) :
 Calls Try.prog 22 #[conV day A n c pa le d p z] w (OwnCon day pa le d p z n l w) := by
 have H := Lib.hid h
 clear h
 go_enter Try.func22, Try.ntmps22
 go_wp2_with fail
 refine (toSchool_any day pa le A n c l _ hn ((H.out.ext (ext_alloc (ext_alloc (ext_alloc (ext_refl _) _) _) _) (Nat.le_refl _)).more (by simp; omega))).mono ?_
 rintro e w1 ⟨A1, c1, rfl, ho1, hb1⟩
 obtain ⟨hc1, hf1⟩ := bcell hb1
 have z0 : w.heap.size + 1 + 1 < w1.heap.size := by (have := hb1.size; simp at this; omega)
 have z1 : w.heap.size + 1 < w1.heap.size := by omega
 have z2 : w.heap.size < w1.heap.size := by omega
 have b1 := Lib.hid (ext_trans (ext_alloc (ext_alloc (ext_alloc (ext_refl w) _) _) _) hb1)
 have ho1 := Lib.hid (show w1.ownsRow (w.heap.size + 1 + 1 + 1) 109 5 (.slice A1 n c1) n (rowsV l) from by simpa using ho1)
 clear hb1
 go_wp2_with fail
 refine (toLog_any d p z _).mono ?_
 rintro e w2 ⟨rfl, hb2⟩
 obtain ⟨hc2, hf2⟩ := bcell hb2
 have y0 : w.heap.size + 1 + 1 < w2.heap.size := by (have := hb2.size; simp at this; omega)
 have y1 : w.heap.size + 1 < w2.heap.size := by omega
 have y2 : w.heap.size < w2.heap.size := by omega
 have HB2 := Lib.hid hb2
 clear hb2
 go_wp2
 refine bodyPost_ret (v := conV day A1 n c1 pa le d p z) (by simp [results, Try.results22, go_sem, *]) rfl ?_
 refine ⟨A1, c1, rfl, own_base (base := w.heap.size + 1 + 1 + 1) ?_ (by omega), ?_⟩
 · repeat (first | (with_reducible exact ho1.out) | (with_reducible refine own_set ?_ (by first | (show w.heap.size + 1 < w.heap.size + 1 + 1 + 1; omega) | (show w.heap.size + 1 + 1 < w.heap.size + 1 + 1 + 1; omega)) _) | refine own_ext ?_ HB2.out)
 · repeat (first | (with_reducible exact b1.out) | (with_reducible refine ext_set ?_ (by simp <;> omega) _) | refine ext_trans ?_ HB2.out)
theorem szConsole_any (day pa le : Int) (d p : ByteArray) (z : Int) (A : Option Addr) (n c : Nat) (hn : n ≤ 9223372036854775807) (hd : d.size ≤ 9223372036854775807) (hp : p.size ≤ 9223372036854775807) :
 ∃ s : Int, (0 ≤ s → n ≤ 1048576 ∧ d.size ≤ 1048576 ∧ p.size ≤ 1048576) ∧ ∀ w, Calls Try.prog 20 #[conV day A n c pa le d p z, .int .i64 1048576] w fun e w' => e = .returned (.int .i64 s) ∧ Below w.heap.size w w' := by
 by_cases h : (1048576 : Int) < n
 · refine ⟨-1, fun h => absurd h (by omega), fun w => ?_⟩
   have H := Lib.hid (fun w => szSchool_any day pa le A n c 1048576 w hn (by omega) (by omega))
   rw [szv_no h] at H
   go_enter Try.func20, Try.ntmps20
   go_wp2_with (go_at_call 43; refine (H.out _).mono ?_; rintro e w' ⟨rfl, hb⟩; obtain ⟨hc, hf⟩ := bcell hb; have hz : w.heap.size < w'.heap.size := by (have := hb.size; (try simp at this); omega))
   go_ret
   exact ⟨rfl, (by repeat (first | exact ext_refl _ | assumption | refine ext_alloc ?_ _ | refine ext_drew ?_ | refine ext_drewN ?_ _ | refine ext_set ?_ (by simp <;> omega) _ | refine ext_trans ?_ (by assumption)))⟩
 · have H := Lib.hid (fun w => szSchool_any day pa le A n c 1048576 w hn (by omega) (by omega))
   rw [szv_yes h] at H
   have h2 : ¬ (1048576 : Int) - n < 0 := by omega
   obtain ⟨S, hS⟩ : ∃ S, szRec (1048576 - n) d p = S := ⟨_, rfl⟩
   have HG := Lib.hid (fun w => szLog_any (1048576 - n) d p z w hd hp (by omega) (by omega))
   rw [hS] at HG
   by_cases hneg : S < 0
   · refine ⟨-1, fun h => absurd h (by omega), fun w => ?_⟩
     clear hS
     go_enter Try.func20, Try.ntmps20
     go_wp2_with (first | (go_at_call 43; refine (H.out _).mono ?_; rintro e w' ⟨rfl, hb⟩; obtain ⟨hc, hf⟩ := bcell hb; have hz : w.heap.size < w'.heap.size := by (have := hb.size; (try simp at this); omega)) | (go_at_call 26; refine (HG.out _).mono ?_; rintro e w' ⟨rfl, hb⟩; obtain ⟨hc, hf⟩ := bcell hb; have hz : w.heap.size < w'.heap.size := by (have := hb.size; (try simp at this); omega)))
     go_ret
     exact ⟨rfl, (by repeat (first | exact ext_refl _ | assumption | refine ext_alloc ?_ _ | refine ext_drew ?_ | refine ext_drewN ?_ _ | refine ext_set ?_ (by simp <;> omega) _ | refine ext_trans ?_ (by assumption)))⟩
   · refine ⟨S, fun _ => ?_, fun w => ?_⟩
     · unfold szRec at hS
       repeat' split at hS
       all_goals omega
     clear hS
     go_enter Try.func20, Try.ntmps20
     go_wp2_with (first | (go_at_call 43; refine (H.out _).mono ?_; rintro e w' ⟨rfl, hb⟩; obtain ⟨hc, hf⟩ := bcell hb; have hz : w.heap.size < w'.heap.size := by (have := hb.size; (try simp at this); omega)) | (go_at_call 26; refine (HG.out _).mono ?_; rintro e w' ⟨rfl, hb⟩; obtain ⟨hc, hf⟩ := bcell hb; have hz : w.heap.size < w'.heap.size := by (have := hb.size; (try simp at this); omega)))
     go_ret
     exact ⟨rfl, (by repeat (first | exact ext_refl _ | assumption | refine ext_alloc ?_ _ | refine ext_drew ?_ | refine ext_drewN ?_ _ | refine ext_set ?_ (by simp <;> omega) _ | refine ext_trans ?_ (by assumption)))⟩
end Go.Proofs.Ytclihlihaigddaa
namespace Go.Proofs.Ytclihlihaigddaa
open Go.RowKit
set_option linter.unusedVariables false
set_option linter.unusedSimpArgs false
set_option maxRecDepth 100000 in
set_option maxHeartbeats 4000000 in
theorem stepped_else (day pa le k id v : Int) (A : Option Addr) (n c : Nat) (l : List R5) (w : World) (hn : n ≤ 8) (hA : SlOk A n c) (h : Reads w w.heap.size 5 A n (rowsV l)) (hk : ¬ (k = 1 ∨ k = 2 ∨ k = 3 ∨ k = 4 ∨ k = 5 ∨ k = 6)) :
 Calls Try.prog 112 #[schV day A n c pa le, .agg #[.int .i64 k, .int .i64 id, .int .i64 v]] w (RetSch none w) := by
 have hk1 : (k == 1) = false := by rw [beq_eq_false_iff_ne]; omega
 have hk2 : (k == 2) = false := by rw [beq_eq_false_iff_ne]; omega
 have hk3 : (k == 3) = false := by rw [beq_eq_false_iff_ne]; omega
 have hk4 : (k == 4) = false := by rw [beq_eq_false_iff_ne]; omega
 have hk5 : (k == 5) = false := by rw [beq_eq_false_iff_ne]; omega
 have hk6 : (k == 6) = false := by rw [beq_eq_false_iff_ne]; omega
 have H := Lib.hid h
 have HL := Lib.hid (rows_len h)
 have HA := Lib.hid (fun w h => own_any day pa le A n c l w (by omega) hA h)
 clear h
 go_enter Try.func112, Try.ntmps112
 go_wp2_with fail
 refine (HA.out _ ((H.out.ext (ext_alloc (ext_alloc (ext_alloc (ext_refl _) _) _) _) (Nat.le_refl _)).more (by simp; omega))).mono ?_
 rintro e w1 ⟨A1, c1, rfl, hown, hb1⟩
 have z0 : w.heap.size + 1 + 1 < w1.heap.size := by (have := hb1.size; simp at this; omega)
 have z1 : w.heap.size + 1 < w1.heap.size := by omega
 have z2 : w.heap.size < w1.heap.size := by omega
 have BX : Hid (Blk w1 w.heap.size 24 #[.int .i64 day, .slice A n c, .int .i64 pa, .int .i64 le]) := Lib.hid (((Blk.new w _ _).ext (ext_alloc (ext_alloc (ext_refl _) _) _)).ext hb1)
 have BY : Hid (Blk w1 (w.heap.size + 1) 74 #[.int .i64 k, .int .i64 id, .int .i64 v]) := Lib.hid (by
  have := ((Blk.new (w.alloc (.cells #[.int .i64 day, .slice A n c, .int .i64 pa, .int .i64 le] 24)) #[.int .i64 k, .int .i64 id, .int .i64 v] 74).ext (ext_alloc (ext_refl _) (.cells #[.int .i64 0, .slice none 0 0, .int .i64 0, .int .i64 0] 24))).ext hb1
  simpa using this)
 have BR : Hid (Blk w1 (w.heap.size + 1 + 1) 24 #[.int .i64 0, .slice none 0 0, .int .i64 0, .int .i64 0]) := Lib.hid (by
  have := (Blk.new ((w.alloc (.cells #[.int .i64 day, .slice A n c, .int .i64 pa, .int .i64 le] 24)).alloc (.cells #[.int .i64 k, .int .i64 id, .int .i64 v] 74)) #[.int .i64 0, .slice none 0 0, .int .i64 0, .int .i64 0] 24).ext hb1
  simpa using this)
 have hbw := Lib.hid (ext_trans (ext_alloc (ext_alloc (ext_alloc (ext_refl w) _) _) _) hb1)
 have HO : Hid (w1.ownsRow w.heap.size 109 5 (.slice A1 n c1) n (rowsV l)) := Lib.hid (own_base hown (by simp; omega))
 clear hb1 hown
 obtain ⟨x0, x1, x2, x3⟩ := BX.out.q4
 obtain ⟨fx0, fx1, fx2, fx3⟩ := BX.out.z4
 obtain ⟨y0, y1, y2⟩ := BY.out.q3
 obtain ⟨fy0, fy1, fy2⟩ := BY.out.z3
 obtain ⟨r0, r1, r2, r3⟩ := BR.out.q4
 obtain ⟨fr0, fr1, fr2, fr3⟩ := BR.out.z4
 go_wp2
 refine bodyPost_ret (v := .tuple #[schV 0 none 0 0 0 0, .bool false]) (by simp [results, Try.results112, go_sem, *]) rfl ⟨rfl, (by repeat (first | exact ext_refl _ | exact hbw.out | exact (hbw).out | refine ext_alloc ?_ _ | refine ext_set ?_ (by simp <;> omega) _))⟩
set_option maxRecDepth 100000 in
set_option maxHeartbeats 4000000 in
theorem stepped_wait_no (day pa le id v : Int) (A : Option Addr) (n c : Nat) (l : List R5) (w : World) (hn : n ≤ 8) (hA : SlOk A n c) (h : Reads w w.heap.size 5 A n (rowsV l)) (hk : id ≠ 0 ∨ v < 1) :
 Calls Try.prog 112 #[schV day A n c pa le, .agg #[.int .i64 1, .int .i64 id, .int .i64 v]] w (RetSch none w) := by
 rcases Classical.em (id = 0) with hi | hi
 · have hv : v < 1 := by rcases hk with h | h; exact absurd hi h; exact h
   have hv' : decide (v < 1) = true := by simpa using hv
   subst hi
   clear hk
   have H := Lib.hid h
   have HL := Lib.hid (rows_len h)
   have HA := Lib.hid (fun w h => own_any day pa le A n c l w (by omega) hA h)
   clear h
   go_enter Try.func112, Try.ntmps112
   go_wp2_with fail
   refine (HA.out _ ((H.out.ext (ext_alloc (ext_alloc (ext_alloc (ext_refl _) _) _) _) (Nat.le_refl _)).more (by simp; omega))).mono ?_
   rintro e w1 ⟨A1, c1, rfl, hown, hb1⟩
   have z0 : w.heap.size + 1 + 1 < w1.heap.size := by (have := hb1.size; simp at this; omega)
   have z1 : w.heap.size + 1 < w1.heap.size := by omega
   have z2 : w.heap.size < w1.heap.size := by omega
   have BX : Hid (Blk w1 w.heap.size 24 #[.int .i64 day, .slice A n c, .int .i64 pa, .int .i64 le]) := Lib.hid (((Blk.new w _ _).ext (ext_alloc (ext_alloc (ext_refl _) _) _)).ext hb1)
   have BY : Hid (Blk w1 (w.heap.size + 1) 74 #[.int .i64 1, .int .i64 0, .int .i64 v]) := Lib.hid (by
    have := ((Blk.new (w.alloc (.cells #[.int .i64 day, .slice A n c, .int .i64 pa, .int .i64 le] 24)) #[.int .i64 1, .int .i64 0, .int .i64 v] 74).ext (ext_alloc (ext_refl _) (.cells #[.int .i64 0, .slice none 0 0, .int .i64 0, .int .i64 0] 24))).ext hb1
    simpa using this)
   have BR : Hid (Blk w1 (w.heap.size + 1 + 1) 24 #[.int .i64 0, .slice none 0 0, .int .i64 0, .int .i64 0]) := Lib.hid (by
    have := (Blk.new ((w.alloc (.cells #[.int .i64 day, .slice A n c, .int .i64 pa, .int .i64 le] 24)).alloc (.cells #[.int .i64 1, .int .i64 0, .int .i64 v] 74)) #[.int .i64 0, .slice none 0 0, .int .i64 0, .int .i64 0] 24).ext hb1
    simpa using this)
   have hbw := Lib.hid (ext_trans (ext_alloc (ext_alloc (ext_alloc (ext_refl w) _) _) _) hb1)
   have HO : Hid (w1.ownsRow w.heap.size 109 5 (.slice A1 n c1) n (rowsV l)) := Lib.hid (own_base hown (by simp; omega))
   clear hb1 hown
   obtain ⟨x0, x1, x2, x3⟩ := BX.out.q4
   obtain ⟨fx0, fx1, fx2, fx3⟩ := BX.out.z4
   obtain ⟨y0, y1, y2⟩ := BY.out.q3
   obtain ⟨fy0, fy1, fy2⟩ := BY.out.z3
   obtain ⟨r0, r1, r2, r3⟩ := BR.out.q4
   obtain ⟨fr0, fr1, fr2, fr3⟩ := BR.out.z4
   go_wp2
   refine bodyPost_ret (v := .tuple #[schV 0 none 0 0 0 0, .bool false]) (by simp [results, Try.results112, go_sem, *]) rfl ⟨rfl, (by repeat (first | exact ext_refl _ | exact hbw.out | exact (hbw).out | refine ext_alloc ?_ _ | refine ext_set ?_ (by simp <;> omega) _))⟩
 · have hi' : (id != 0) = true := by simpa using hi
   clear hk hi
   have H := Lib.hid h
   have HL := Lib.hid (rows_len h)
   have HA := Lib.hid (fun w h => own_any day pa le A n c l w (by omega) hA h)
   clear h
   go_enter Try.func112, Try.ntmps112
   go_wp2_with fail
   refine (HA.out _ ((H.out.ext (ext_alloc (ext_alloc (ext_alloc (ext_refl _) _) _) _) (Nat.le_refl _)).more (by simp; omega))).mono ?_
   rintro e w1 ⟨A1, c1, rfl, hown, hb1⟩
   have z0 : w.heap.size + 1 + 1 < w1.heap.size := by (have := hb1.size; simp at this; omega)
   have z1 : w.heap.size + 1 < w1.heap.size := by omega
   have z2 : w.heap.size < w1.heap.size := by omega
   have BX : Hid (Blk w1 w.heap.size 24 #[.int .i64 day, .slice A n c, .int .i64 pa, .int .i64 le]) := Lib.hid (((Blk.new w _ _).ext (ext_alloc (ext_alloc (ext_refl _) _) _)).ext hb1)
   have BY : Hid (Blk w1 (w.heap.size + 1) 74 #[.int .i64 1, .int .i64 id, .int .i64 v]) := Lib.hid (by
    have := ((Blk.new (w.alloc (.cells #[.int .i64 day, .slice A n c, .int .i64 pa, .int .i64 le] 24)) #[.int .i64 1, .int .i64 id, .int .i64 v] 74).ext (ext_alloc (ext_refl _) (.cells #[.int .i64 0, .slice none 0 0, .int .i64 0, .int .i64 0] 24))).ext hb1
    simpa using this)
   have BR : Hid (Blk w1 (w.heap.size + 1 + 1) 24 #[.int .i64 0, .slice none 0 0, .int .i64 0, .int .i64 0]) := Lib.hid (by
    have := (Blk.new ((w.alloc (.cells #[.int .i64 day, .slice A n c, .int .i64 pa, .int .i64 le] 24)).alloc (.cells #[.int .i64 1, .int .i64 id, .int .i64 v] 74)) #[.int .i64 0, .slice none 0 0, .int .i64 0, .int .i64 0] 24).ext hb1
    simpa using this)
   have hbw := Lib.hid (ext_trans (ext_alloc (ext_alloc (ext_alloc (ext_refl w) _) _) _) hb1)
   have HO : Hid (w1.ownsRow w.heap.size 109 5 (.slice A1 n c1) n (rowsV l)) := Lib.hid (own_base hown (by simp; omega))
   clear hb1 hown
   obtain ⟨x0, x1, x2, x3⟩ := BX.out.q4
   obtain ⟨fx0, fx1, fx2, fx3⟩ := BX.out.z4
   obtain ⟨y0, y1, y2⟩ := BY.out.q3
   obtain ⟨fy0, fy1, fy2⟩ := BY.out.z3
   obtain ⟨r0, r1, r2, r3⟩ := BR.out.q4
   obtain ⟨fr0, fr1, fr2, fr3⟩ := BR.out.z4
   go_wp2
   refine bodyPost_ret (v := .tuple #[schV 0 none 0 0 0 0, .bool false]) (by simp [results, Try.results112, go_sem, *]) rfl ⟨rfl, (by repeat (first | exact ext_refl _ | exact hbw.out | exact (hbw).out | refine ext_alloc ?_ _ | refine ext_set ?_ (by simp <;> omega) _))⟩
end Go.Proofs.Ytclihlihaigddaa
