/- Reading one line of a log as a record: program and reference, all cases joined. -/
import Derived.Test.YtkcbgiegoadkbaaGreatVM2
import Derived.Test.YtkcbgiegoadkbaaGreatVDecS
import Derived.Test.YtkcbgiegoadkbaaGreatVM1
import Derived.Test.YtkcbgiegoadkbaaGreatVScEc
import Derived.Lib.ConvBytes
import Derived.Laws.BytesArg
import Derived.Test.YtkcbgiegoadkbaaGreatVRegL
namespace Go.Proofs.YtkcbgiegoadkbaaGreat
open Go.RowKit
set_option linter.unusedVariables false
set_option linter.unusedSimpArgs false
theorem head_size (k : Nat) : (dHead k).size = (dec k).size + 1 := by
 simp [dHead, ByteArray.size_append, lit_size]
theorem dec_cases (k : Nat) (l : ByteArray) (P : ByteArray → ByteArray → Bool → Prop)
 (h1 : ∀ T D, Hid (dec k = D) → D.size ≤ 20 → Hid (cutB l 35 = T) → T.size ≤ l.size → (T.size : Int) < (D.size : Int) + 1 → P ⟨#[]⟩ ⟨#[]⟩ false)
 (h2 : ∀ T D, Hid (dec k = D) → D.size ≤ 20 → Hid (cutB l 35 = T) → T.size ≤ l.size → (D.size : Int) + 1 ≤ (T.size : Int) → ((T.extract 0 (D.size + 1)).toList == (D ++ ⟨#[32]⟩).toList) = false → P ⟨#[]⟩ ⟨#[]⟩ false)
 (h3 : ∀ T D R C, Hid (dec k = D) → D.size ≤ 20 → Hid (cutB l 35 = T) → T.size ≤ l.size → (D.size : Int) + 1 ≤ (T.size : Int) → ((T.extract 0 (D.size + 1)).toList == (D ++ ⟨#[32]⟩).toList) = true → Hid (T.extract (D.size + 1) T.size = R) → R.size ≤ l.size → Hid (cutB R 64 = C) → C.size ≤ R.size → ((C.size : Int) == (R.size : Int)) = true → P ⟨#[]⟩ ⟨#[]⟩ false)
 (h4 : ∀ T D R C Q, Hid (dec k = D) → D.size ≤ 20 → Hid (cutB l 35 = T) → T.size ≤ l.size → (D.size : Int) + 1 ≤ (T.size : Int) → ((T.extract 0 (D.size + 1)).toList == (D ++ ⟨#[32]⟩).toList) = true → Hid (T.extract (D.size + 1) T.size = R) → R.size ≤ l.size → Hid (cutB R 64 = C) → C.size ≤ R.size → ((C.size : Int) == (R.size : Int)) = false → (C.size : Int) + 1 ≤ (R.size : Int) → Hid (R.extract (C.size + 1) R.size = Q) → Q.size ≤ l.size → recB C Q = false → P C Q false)
 (h5 : ∀ T D R C Q, Hid (dec k = D) → D.size ≤ 20 → Hid (cutB l 35 = T) → T.size ≤ l.size → (D.size : Int) + 1 ≤ (T.size : Int) → ((T.extract 0 (D.size + 1)).toList == (D ++ ⟨#[32]⟩).toList) = true → Hid (T.extract (D.size + 1) T.size = R) → R.size ≤ l.size → Hid (cutB R 64 = C) → C.size ≤ R.size → ((C.size : Int) == (R.size : Int)) = false → (C.size : Int) + 1 ≤ (R.size : Int) → Hid (R.extract (C.size + 1) R.size = Q) → Q.size ≤ l.size → recB C Q = true → P C Q (decide (lineB (k : Int) C Q = l ++ ⟨#[10]⟩))) :
 P (dC k l) (dR k l) (dOk k l) := by
 have zD := dec_size k
 have zH := head_size k
 have zT : (dText l).size ≤ l.size := cutB_size l 35
 have aD : Hid (dec k = dec k) := Lib.hid rfl
 have aT : Hid (cutB l 35 = dText l) := Lib.hid rfl
 have zD' : (dec k).size ≤ 20 := by omega
 by_cases q1 : (dHead k).size ≤ (dText l).size
 · by_cases q2 : (dText l).extract 0 (dHead k).size = dHead k
   · have hp : dPre k l = true := by simp [dPre, q1, q2]
     have b2 : (((dText l).extract 0 ((dec k).size + 1)).toList == (dec k ++ ⟨#[32]⟩).toList) = true := by
      rw [← zH, beq_iff_eq, toList_eq_iff]; exact q2
     have aR : Hid ((dText l).extract ((dec k).size + 1) (dText l).size = dRest k l) := Lib.hid (by rw [← zH]; rfl)
     have zR : (dRest k l).size ≤ l.size := by
      rw [dRest, extract_size _ _ _ (Nat.le_refl _)]; omega
     have aC : Hid (cutB (dRest k l) 64 = dCmd k l) := Lib.hid rfl
     have zC : (dCmd k l).size ≤ (dRest k l).size := cutB_size _ _
     by_cases q3 : (dCmd k l).size = (dRest k l).size
     · have ha : dAt k l = false := by simp [dAt, hp, q3]
       have := h3 (dText l) (dec k) (dRest k l) (dCmd k l) aD zD' aT zT (by omega) b2 aR zR aC zC (by rw [beq_iff_eq]; omega)
       simpa [dC, dR, dOk, ha] using this
     · have ha : dAt k l = true := by simp [dAt, hp, q3]
       have q3' : (((dCmd k l).size : Int) == ((dRest k l).size : Int)) = false := by
        rw [Bool.eq_false_iff]; intro h; rw [beq_iff_eq] at h; omega
       have aQ : Hid ((dRest k l).extract ((dCmd k l).size + 1) (dRest k l).size = dRep k l) := Lib.hid rfl
       have zQ : (dRep k l).size ≤ l.size := by
        rw [dRep, extract_size _ _ _ (Nat.le_refl _)]; omega
       rcases hb : recB (dCmd k l) (dRep k l) with _ | _
       · have := h4 _ _ _ _ _ aD zD' aT zT (by omega) b2 aR zR aC zC q3' (by omega) aQ zQ hb
         simpa [dC, dR, dOk, ha, hb] using this
       · have := h5 _ _ _ _ _ aD zD' aT zT (by omega) b2 aR zR aC zC q3' (by omega) aQ zQ hb
         simpa [dC, dR, dOk, ha, hb] using this
   · have ha : dAt k l = false := by simp [dAt, dPre, q2]
     have b2 : (((dText l).extract 0 ((dec k).size + 1)).toList == (dec k ++ ⟨#[32]⟩).toList) = false := by
      rw [Bool.eq_false_iff]; intro h; rw [← zH, beq_iff_eq, toList_eq_iff] at h; exact q2 h
     have := h2 _ _ aD zD' aT zT (by omega) b2
     simpa [dC, dR, dOk, ha] using this
 · have ha : dAt k l = false := by simp [dAt, dPre, q1]
   have := h1 _ _ aD zD' aT zT (by omega)
   simpa [dC, dR, dOk, ha] using this
theorem decode_any (k : Nat) (l : ByteArray) (w : World) (hk : k ≤ 59) (hl : l.size ≤ 6000000) :
 Calls Tryz.prog 68 #[.int .i64 k, .string l] w fun e w' => e = .returned (.tuple #[recV (dC k l) (dR k l), .bool (dOk k l)]) ∧ Below w.heap.size w w' :=
 dec_cases k l (fun c r b => Calls Tryz.prog 68 #[.int .i64 k, .string l] w fun e w' => e = .returned (.tuple #[recV c r, .bool b]) ∧ Below w.heap.size w w')
  (fun T D a b c d e => dec_short k l T D w hk hl a b c d e) (fun T D a b c d e f => dec_head k l T D w hk hl a b c d e f)
  (fun T D R C a b c d e f g h i j m => dec_noat k l T D R C w hk hl a b c d e f g h i j m)
  (fun T D R C Q a b c d e f g h i j m n p q r => dec_bad k l T D R C Q w hk hl a b c d e f g h i j m n p q r)
  (fun T D R C Q a b c d e f g h i j m n p q r => dec_good k l T D R C Q w hk hl a b c d e f g h i j m n p q r)
theorem read_any (k : Nat) (l : ByteArray) (w : World) (hk : k ≤ 59) (hl : l.size ≤ 6000000) :
 Calls Tryz.prog 78 #[.string l, .int .i64 k] w fun e w' => e = .returned (.tuple #[recV (dC k l) (dR k l), .bool (dOk k l)]) ∧ Below w.heap.size w w' :=
 dec_cases k l (fun c r b => Calls Tryz.prog 78 #[.string l, .int .i64 k] w fun e w' => e = .returned (.tuple #[recV c r, .bool b]) ∧ Below w.heap.size w w')
  (fun T D a b c d e => read_short k l T D w hk hl a b c d e) (fun T D a b c d e f => read_head k l T D w hk hl a b c d e f)
  (fun T D R C a b c d e f g h i j m => read_noat k l T D R C w hk hl a b c d e f g h i j m)
  (fun T D R C Q a b c d e f g h i j m n p q r => read_bad k l T D R C Q w hk hl a b c d e f g h i j m n p q r)
  (fun T D R C Q a b c d e f g h i j m n p q r => read_good k l T D R C Q w hk hl a b c d e f g h i j m n p q r)
end Go.Proofs.YtkcbgiegoadkbaaGreat
namespace Go.Proofs.YtkcbgiegoadkbaaGreat
open Go.RowKit
set_option linter.unusedVariables false
set_option linter.unusedSimpArgs false
theorem tw_facts (p : UInt8 → Bool) : ∀ t : List UInt8, (∀ i c, i < (t.takeWhile p).length → t[i]? = some c → p c = true) ∧ (∀ c, t[(t.takeWhile p).length]? = some c → p c = false) ∧ t.take (t.takeWhile p).length = t.takeWhile p := by
 intro t
 induction t with
 | nil => simp
 | cons x t ih =>
   obtain ⟨h1, h2, h3⟩ := ih
   rcases hx : p x with _ | _
   · simp [List.takeWhile_cons, hx]
   · refine ⟨?_, ?_, ?_⟩
     · intro i c hi hc
       rcases i with _ | i
       · simp at hc; rw [← hc]; exact hx
       · simp only [List.takeWhile_cons, hx, if_true, List.length_cons] at hi
         exact h1 i c (by omega) (by simpa using hc)
     · intro c hc
       simp only [List.takeWhile_cons, hx, if_true, List.length_cons, List.getElem?_cons_succ] at hc
       exact h2 c hc
     · simp [List.takeWhile_cons, hx, h3]
/-- the line that begins at a place, and where it ends -/
def ln (s : ByteArray) (at_ : Nat) : ByteArray := cutB (s.extract at_ s.size) 10
def lnEnd (s : ByteArray) (at_ : Nat) : Nat := at_ + (ln s at_).size
theorem ln_bl (s : ByteArray) (a : Nat) : bl (ln s a) = ((bl s).drop a).takeWhile (· != 10) := by
 rw [ln, cutB, bl_str, bl_extract, ← bl_size, List.take_length]
theorem ln_size (s : ByteArray) (a : Nat) : (ln s a).size = (((bl s).drop a).takeWhile (· != 10)).length := by rw [← bl_size, ln_bl]
theorem lnEnd_le {s : ByteArray} {a : Nat} (h : a ≤ s.size) : lnEnd s a ≤ s.size := by
 have h1 := cutB_size (s.extract a s.size) 10
 rw [extract_size _ _ _ (Nat.le_refl _)] at h1
 unfold lnEnd ln
 omega
theorem ln_miss {s : ByteArray} {a j : Nat} (h1 : a ≤ j) (h2 : j < lnEnd s a) (hj : j < s.size) : s[j] ≠ 10 := by
 have := (tw_facts (· != 10) ((bl s).drop a)).1 (j - a) s[j] (by rw [← ln_size]; unfold lnEnd at h2; omega) (by rw [List.getElem?_drop, show a + (j - a) = j from by omega]; exact bl_get hj)
 simpa using this
theorem ln_hit {s : ByteArray} {a : Nat} (hj : lnEnd s a < s.size) : s[lnEnd s a] = 10 := by
 have := (tw_facts (· != 10) ((bl s).drop a)).2.1 s[lnEnd s a] (by rw [← ln_size, List.getElem?_drop]; exact bl_get hj)
 simpa using this
theorem ln_extract (s : ByteArray) (a : Nat) : s.extract a (lnEnd s a) = ln s a := by
 apply bl_inj
 have h := (tw_facts (· != 10) ((bl s).drop a)).2.2
 rw [← ln_size, ← ln_bl] at h
 rw [bl_extract, ← h, List.take_drop]
 rfl
/-- how many pieces: two or more where there is a newline -/
theorem ln_pieces {s : ByteArray} {a : Nat} (h : a ≤ s.size) : oneB (s.extract a s.size) 10 < 2 ↔ lnEnd s a = s.size := by
 have e1 : bl (s.extract a s.size) = (bl s).drop a := by rw [bl_extract, ← bl_size, List.take_length]
 have e2 : oneB (s.extract a s.size) 10 = 1 + ((bl s).drop a).count 10 := by
  show (splitL 10 (bl (s.extract a s.size))).length = _
  rw [splitL_len, e1]
 rw [e2]
 have hle := lnEnd_le h
 constructor
 · intro hlt
   have h0 : ((bl s).drop a).count 10 = 0 := by omega
   by_cases he : lnEnd s a = s.size
   · exact he
   · have hl : lnEnd s a < s.size := by omega
     have h10 := ln_hit hl
     have hm : (10 : UInt8) ∈ (bl s).drop a := by
      rw [List.mem_iff_getElem?]
      exact ⟨lnEnd s a - a, by rw [List.getElem?_drop, show a + (lnEnd s a - a) = lnEnd s a from by unfold lnEnd; omega, bl_get hl, h10]⟩
     exact absurd hm (List.count_eq_zero.1 h0)
 · intro he
   have : ((bl s).drop a).count 10 = 0 := by
    rw [List.count_eq_zero]
    intro hm
    obtain ⟨i, hi⟩ := List.mem_iff_getElem?.1 hm
    have hlt : i < ((bl s).drop a).length := (List.getElem?_eq_some_iff.1 hi).1
    rw [List.length_drop, bl_size] at hlt
    rw [List.getElem?_drop, bl_get (by omega)] at hi
    exact ln_miss (s := s) (a := a) (j := a + i) (by omega) (by omega) (by omega) (by simpa using hi)
   omega
/-- one more record from a place on, with a number -/
def stepB (s : ByteArray) (a k : Nat) : Bool := decide (lnEnd s a < s.size) && dOk k (ln s a)
def recF (s : ByteArray) : Nat → Nat → Nat → List (ByteArray × ByteArray) × Nat
 | 0, a, _ => ([], a)
 | f + 1, a, k => if stepB s a k = true then let r := recF s f (lnEnd s a + 1) (k + 1); ((dC k (ln s a), dR k (ln s a)) :: r.1, r.2) else ([], a)
def recL (s : ByteArray) : List (ByteArray × ByteArray) := (recF s 60 0 0).1
def recE (s : ByteArray) : Nat := (recF s 60 0 0).2
theorem recF_end (s : ByteArray) : ∀ (f a k : Nat), a ≤ s.size → a ≤ (recF s f a k).2 ∧ (recF s f a k).2 ≤ s.size ∧ (recF s f a k).1.length ≤ f := by
 intro f
 induction f with
 | zero => intro a k h; simp [recF, h]
 | succ f ih =>
   intro a k h
   unfold recF
   split
   · rename_i hs
     simp only [stepB, Bool.and_eq_true, decide_eq_true_eq] at hs
     have := ih (lnEnd s a + 1) (k + 1) (by omega)
     have h2 : a ≤ lnEnd s a := by unfold lnEnd; omega
     refine ⟨by simp only []; omega, by simp only []; omega, by simp only [List.length_cons]; omega⟩
   · exact ⟨Nat.le_refl _, h, by simp⟩
end Go.Proofs.YtkcbgiegoadkbaaGreat
namespace Go.Proofs.YtkcbgiegoadkbaaGreat
open Go.RowKit
set_option linter.unusedVariables false
set_option linter.unusedSimpArgs false
theorem dOk_parts {k : Nat} {l : ByteArray} (h : dOk k l = true) : dAt k l = true ∧ recB (dCmd k l) (dRep k l) = true ∧ lineB k (dCmd k l) (dRep k l) = l ++ ⟨#[10]⟩ := by
 simp only [dOk, Bool.and_eq_true, decide_eq_true_eq] at h
 exact ⟨h.1.1, h.1.2, h.2⟩
theorem dOk_size {k : Nat} {l : ByteArray} (h : dOk k l = true) : l.size + 1 ≤ 405 := by
 obtain ⟨_, h2, h3⟩ := dOk_parts h
 have h4 := rec_parts h2
 have h5 := lineB_size (k : Int) (dCmd k l) (dRep k l)
 have h6 : (l ++ ⟨#[10]⟩ : ByteArray).size = l.size + 1 := by rw [ByteArray.size_append]; rfl
 rw [h3, h6] at h5
 omega
theorem stepB_parts {s : ByteArray} {a k : Nat} (h : stepB s a k = true) : lnEnd s a < s.size ∧ dOk k (ln s a) = true := by
 simpa [stepB] using h
theorem recF_size (s : ByteArray) : ∀ (f a k : Nat), (recF s f a k).2 ≤ a + f * 405 := by
 intro f
 induction f with
 | zero => intro a k; simp [recF]
 | succ f ih =>
   intro a k
   unfold recF
   split
   · rename_i hs
     have h1 := dOk_size (stepB_parts hs).2
     have h2 := ih (lnEnd s a + 1) (k + 1)
     simp only []
     unfold lnEnd at h2 ⊢
     omega
   · simp
theorem recE_small (s : ByteArray) : recE s ≤ 24300 := by have := recF_size s 60 0 0; unfold recE; omega
theorem recE_le (s : ByteArray) : recE s ≤ s.size := (recF_end s 60 0 0 (Nat.zero_le _)).2.1
theorem recL_len (s : ByteArray) : (recL s).length ≤ 60 := (recF_end s 60 0 0 (Nat.zero_le _)).2.2
/-- a log is valid: durable bytes, pending bytes, how many records -/
def logB (d p : ByteArray) (z : Int) : Bool := decide ((recE (d ++ p) : Int) = d.size + p.size) && decide ((recE d : Int) = d.size) && decide (z = ((recL (d ++ p)).length : Int))
theorem logB_parts {d p : ByteArray} {z : Int} (h : logB d p z = true) : recE (d ++ p) = d.size + p.size ∧ recE d = d.size ∧ z = ((recL (d ++ p)).length : Int) := by
 simp only [logB, Bool.and_eq_true, decide_eq_true_eq] at h
 exact ⟨by omega, by omega, h.2⟩
theorem logB_size {d p : ByteArray} {z : Int} (h : logB d p z = true) : d.size + p.size ≤ 24300 := by
 have h1 := recE_small (d ++ p)
 have := (logB_parts h).1
 omega
theorem logB_count {d p : ByteArray} {z : Int} (h : logB d p z = true) : 0 ≤ z ∧ z ≤ 60 := by
 have h1 := recL_len (d ++ p)
 have := (logB_parts h).2.2
 omega
abbrev logV (d p : ByteArray) (z : Int) : Value := .agg #[.string d, .string p, .int .i64 z]
end Go.Proofs.YtkcbgiegoadkbaaGreat
namespace Go.Proofs.YtkcbgiegoadkbaaGreat
open Go.RowKit
set_option linter.unusedVariables false
set_option linter.unusedSimpArgs false
abbrev CR := ByteArray × ByteArray
def recCells (r : CR) : List Value := [.string r.1, .string r.2]
def recsV (l : List CR) : List Value := l.flatMap recCells
theorem recsV_len (l : List CR) : (recsV l).length = l.length * 2 := flat_len recCells 2 (fun _ => rfl) l
theorem recsV_snoc (l : List CR) (r : CR) : recsV (l ++ [r]) = recsV l ++ [.string r.1, .string r.2] := by simp [recsV, recCells]
theorem info_rec : (Tryz.prog.info? 60).map (fun i => (i.zero, i.size, i.bytes)) = some (some (.agg #[.string ⟨#[]⟩, .string ⟨#[]⟩]), 2, 32) := by kernel_rfl
def SplitRet2 (w : World) (s : ByteArray) (b : UInt8) (e : Ending) (w' : World) : Prop :=
 ∃ g c, e = .returned (.slice (some ⟨g, 0, none⟩) (oneB s b) c) ∧ w'.cell? ⟨g, 0, none⟩ = some (.string (cutB s b)) ∧ w.heap.size ≤ g ∧ 1 ≤ oneB s b ∧ oneB s b ≤ s.size + 1 ∧ Below w.heap.size w w'
theorem l1Split_ret2 (s : ByteArray) (b : UInt8) (w : World) (hs : s.size ≤ 16777216) : Calls Tryz.prog 30 #[.string s, .int .u8 (b.toNat : Int)] w (SplitRet2 w s b) := by
 refine (l1Split_any s b w hs).mono ?_
 rintro e w' ⟨A, c, rfl, hown, hb⟩
 have hpos : 1 ≤ (splitL b (bl s)).length := by rw [splitL_len]; omega
 obtain ⟨g, cap, hv, hbg, hglt⟩ := hown.form (by omega)
 injection hv with hA _ hcap
 subst hA hcap
 refine ⟨g, c, rfl, ?_, hbg, hpos, splitL_size s b, hb⟩
 rw [hown.cellAt 0 (by omega)]
 simp [strsV, splitL_head, cutB]
/-- a slice of records and a number -/
def RetOpen (w : World) (l : List CR) (z : Nat) (e : Ending) (w' : World) : Prop :=
 ∃ A c, e = .returned (.tuple #[.slice A l.length c, .int .i64 z]) ∧ w'.ownsRow w.heap.size 60 2 (.slice A l.length c) l.length (recsV l) ∧ Below w.heap.size w w'
theorem recF_yes {s : ByteArray} {f a k : Nat} (h : stepB s a k = true) : recF s (f + 1) a k = ((dC k (ln s a), dR k (ln s a)) :: (recF s f (lnEnd s a + 1) (k + 1)).1, (recF s f (lnEnd s a + 1) (k + 1)).2) := by simp [recF, h]
theorem recF_no {s : ByteArray} {f a k : Nat} (h : stepB s a k = false) : recF s f a k = ([], a) := by cases f <;> simp [recF, h]
/-- where the loop stands: what is read, and what is left to read -/
def Stand (s : ByteArray) (k a : Nat) (L : List CR) : Prop := k ≤ 60 ∧ a ≤ s.size ∧ L.length = k ∧ L ++ (recF s (60 - k) a k).1 = recL s ∧ (recF s (60 - k) a k).2 = recE s
theorem stand_start (s : ByteArray) : Stand s 0 0 [] := ⟨by omega, Nat.zero_le _, rfl, rfl, rfl⟩
theorem stand_next {s : ByteArray} {k a : Nat} {L : List CR} (h : Stand s k a L) (hk : k < 60) (hs : stepB s a k = true) : Stand s (k + 1) (lnEnd s a + 1) (L ++ [(dC k (ln s a), dR k (ln s a))]) := by
 obtain ⟨h1, h2, h3, h4, h5⟩ := h
 obtain ⟨f, hf⟩ : ∃ f, 60 - k = f + 1 := ⟨59 - k, by omega⟩
 rw [hf, recF_yes hs] at h4 h5
 have he : lnEnd s a < s.size := by simp only [stepB, Bool.and_eq_true, decide_eq_true_eq] at hs; exact hs.1
 refine ⟨by omega, by omega, by simp [h3], ?_, ?_⟩
 · rw [show 60 - (k + 1) = f from by omega, ← h4]; simp
 · rw [show 60 - (k + 1) = f from by omega]; exact h5
theorem stand_end {s : ByteArray} {k a : Nat} {L : List CR} (h : Stand s k a L) (hs : stepB s a k = false ∨ k = 60) : L = recL s ∧ a = recE s := by
 obtain ⟨h1, h2, h3, h4, h5⟩ := h
 rcases hs with hs | rfl
 · rw [recF_no hs] at h4 h5
   exact ⟨by simpa using h4, h5⟩
 · exact ⟨by simpa [recF] using h4, by simpa [recF] using h5⟩
end Go.Proofs.YtkcbgiegoadkbaaGreat
namespace Go.Proofs.YtkcbgiegoadkbaaGreat
open Go.RowKit
set_option linter.unusedVariables false
set_option linter.unusedSimpArgs false
set_option maxRecDepth 100000 in
set_option maxHeartbeats 1000000 in
theorem l27Open_any (s : ByteArray) (w : World) (hs : s.size ≤ 6000000) : Calls Tryz.prog 49 #[.string s] w (RetOpen w (recL s) (recE s)) := by
 obtain ⟨i0, ji, jz0, jz1, jz2⟩ := info_parts info_rec
 go_enter Tryz.func49, Tryz.ntmps49
 go_wp2
 have ho := own_lit0 w 60 2
 go_loopw [4, 5] (fun v i wr => ∃ (k a : Nat) (L : List CR), Hid (Stand s k a L) ∧ k ≤ 60 ∧ a ≤ s.size ∧ i = .int .i64 a ∧ wr.ownsRow w.heap.size 60 2 v k (recsV L) ∧ Below w.heap.size w wr) (fun _ i _ => s.size - (intOf i).toNat)
 case atStart => exact ⟨0, 0, [], Lib.hid (stand_start s), by omega, Nat.zero_le _, rfl, by simpa [recsV] using ho, (by repeat (first | exact ext_refl _ | assumption | refine ext_alloc ?_ _ | refine ext_drew ?_ | refine ext_drewN ?_ _ | refine ext_set ?_ (by simp <;> omega) _ | refine ext_trans ?_ (by assumption)))⟩
 case round =>
  obtain ⟨k, a, L, hst, hk, ha, rfl, hown, hbl⟩ := hrel
  obtain ⟨A', c', rfl⟩ := own_shape hown
  by_cases hgo : a < s.size ∧ k < 60
  · obtain ⟨hgo1, hgo2⟩ := hgo
    have zY := extract_size s a s.size (Nat.le_refl _)
    obtain ⟨Y, hY⟩ : ∃ Y, s.extract a s.size = Y := ⟨_, rfl⟩
    have HY := Lib.hid hY
    rw [hY] at zY
    clear hY
    obtain ⟨Z, hZ⟩ : ∃ Z, ln s a = Z := ⟨_, rfl⟩
    have zZ : a + Z.size ≤ s.size := by have := lnEnd_le (s := s) (a := a) ha; unfold lnEnd at this; rw [hZ] at this; exact this
    have hcut : cutB Y 10 = Z := by rw [← HY.out]; exact hZ
    have HCUT := Lib.hid hcut
    have HP := Lib.hid (ln_pieces (s := s) (a := a) ha)
    rw [HY.out] at HP
    have HR := Lib.hid (fun w => read_any k Z w (by omega) (by omega))
    obtain ⟨C, hC⟩ : ∃ C, dC k Z = C := ⟨_, rfl⟩
    obtain ⟨R, hR⟩ : ∃ R, dR k Z = R := ⟨_, rfl⟩
    obtain ⟨ok, hok⟩ : ∃ ok, dOk k Z = ok := ⟨_, rfl⟩
    rw [hC, hR, hok] at HR
    have hstep : stepB s a k = (decide (a + Z.size < s.size) && ok) := by rw [stepB, lnEnd, hZ, hok]
    have hnext := Lib.hid (stand_next (s := s) (k := k) (a := a) (L := L) hst.out hgo2)
    have hstop := Lib.hid (stand_end (s := s) (k := k) (a := a) (L := L) hst.out)
    rw [hstep, lnEnd, hZ, hC, hR] at hnext
    rw [hstep] at hstop
    have hlnE : lnEnd s a = a + Z.size := by rw [lnEnd, hZ]
    rw [hlnE] at HP
    clear hcut hZ hC hR hok hstep hlnE
    go_wp2_with fail
    rw [HY.out]
    refine (l1Split_ret2 Y 10 _ (by omega)).mono ?_
    rintro e w' ⟨g, c, rfl, hcell, hg, ho1, ho2, hb1⟩
    rw [show cutB Y 10 = Z from HCUT.out] at hcell
    obtain ⟨hc1, hf1⟩ := bcell hb1
    have hz1 := hb1.size
    have m1 : k + 1 ≤ maxLen := by unfold maxLen; omega
    have m2 : (k + 1) * 32 ≤ 140737488355328 := by omega
    have m3 := hbl.size
    by_cases hnl : a + Z.size < s.size
    · have two : 2 ≤ oneB Y 10 := by
       have := mt HP.out.1 (by omega); omega
      have two' : ((oneB Y 10 : Int) < 2) = False := by simp; omega
      clear HP
      cases ok
      · go_wp2_with (go_at_call 78; refine (HR.out _).mono ?_; rintro e w' ⟨rfl, hb2⟩; obtain ⟨hc2, hf2⟩ := bcell hb2; have hz2 := hb2.size)
        go_ret2
        obtain ⟨e1, e2⟩ := hstop.out (Or.inl (by simp <;> omega))
        have e3 := hst.out.2.2.1
        refine ⟨A', c', ?_, ?_, (by repeat (first | exact ext_refl _ | assumption | refine ext_alloc ?_ _ | refine ext_drew ?_ | refine ext_drewN ?_ _ | refine ext_set ?_ (by simp <;> omega) _ | refine ext_trans ?_ (by assumption)))⟩
        · rw [← e1, ← e2, e3]; rfl
        · rw [← e1, e3]
          exact (own_ext (own_ext hown hb1) hb2).alloc _
      · go_wp2_with (first | (go_at_call 78; refine (HR.out _).mono ?_; rintro e w' ⟨rfl, hb2⟩; obtain ⟨hc2, hf2⟩ := bcell hb2; have hz2 := hb2.size) | (at_builtin; refine wpList_append_own _ rfl (.tmp 39) (.tmp 41) 62 rfl w.heap.size 60 i0 _ 2 32 Tryz.underlying62 ji jz0 jz1 jz2 rfl (by decide) _ _ _ rfl (((own_ext (own_ext hown hb1) hb2).alloc _).alloc _) _ 1 1 [.string C, .string R] rfl rfl (cells_new_at _ [.string C, .string R] _ (by simp)) (by simp [Value.oneCell']) m1 m2 (by simp; omega) ?_; intro v' w2 hown2 hgrow _; have hcell2 := cell_far_grown hgrow (p := ⟨g, 0, none⟩) (fun e => by have := (hown.lt g e).2; omega) (ext_cell (ext_alloc (ext_alloc (ext_refl _) _) _) (ext_cell hb2 hcell))))
        go_roundw
        case rel =>
         refine ⟨k + 1, a + Z.size + 1, L ++ [(C, R)], Lib.hid (hnext.out (by simp; omega)), by omega, by omega, by go_num, ?_, below_grown hown (by repeat (first | exact ext_refl _ | assumption | refine ext_alloc ?_ _ | refine ext_drew ?_ | refine ext_drewN ?_ _ | refine ext_set ?_ (by simp <;> omega) _ | refine ext_trans ?_ (by assumption))) hgrow⟩
         rw [recsV_snoc]
         exact hown2
        case measure => simp [intOf]; omega
    · have one : (oneB Y 10 : Int) < 2 := by
       have := HP.out.2 (by omega); omega
      clear HP
      go_wp2_with (go_at_call 78; refine (HR.out _).mono ?_; rintro e w' ⟨rfl, hb2⟩; obtain ⟨hc2, hf2⟩ := bcell hb2; have hz2 := hb2.size)
      go_ret2
      obtain ⟨e1, e2⟩ := hstop.out (Or.inl (by simp <;> omega))
      have e3 := hst.out.2.2.1
      refine ⟨A', c', ?_, ?_, (by repeat (first | exact ext_refl _ | assumption | refine ext_alloc ?_ _ | refine ext_drew ?_ | refine ext_drewN ?_ _ | refine ext_set ?_ (by simp <;> omega) _ | refine ext_trans ?_ (by assumption)))⟩
      · rw [← e1, ← e2, e3]; rfl
      · rw [← e1, e3]
        exact (own_ext (own_ext hown hb1) hb2).alloc _
  · have hE := Lib.hid (stand_end (s := s) (k := k) (a := a) (L := L) hst.out)
    go_wp2_with fail
    all_goals go_ret2
    all_goals obtain ⟨e1, e2⟩ := hE.out (by first | exact Or.inr (by omega) | exact Or.inl (by have := lnEnd_le (s := s) (a := a) ha; have : a ≤ lnEnd s a := by unfold lnEnd; omega
                                                                                               rw [stepB, decide_eq_false (by omega)]; rfl))
    all_goals have e3 := hst.out.2.2.1
    all_goals refine ⟨A', c', ?_, ?_, (by repeat (first | exact ext_refl _ | assumption | refine ext_alloc ?_ _ | refine ext_drew ?_ | refine ext_drewN ?_ _ | refine ext_set ?_ (by simp <;> omega) _ | refine ext_trans ?_ (by assumption)))⟩
    all_goals first | (rw [← e1, ← e2, e3]; rfl) | (rw [← e1, e3]; exact hown)
end Go.Proofs.YtkcbgiegoadkbaaGreat
namespace Go.Proofs.YtkcbgiegoadkbaaGreat
open Go.RowKit
set_option linter.unusedVariables false
set_option linter.unusedSimpArgs false
theorem ln_hit' {s : ByteArray} {a j : Nat} (h : lnEnd s a = j) (hj : j < s.size) : s[j] = 10 := by subst h; exact ln_hit hj
set_option maxRecDepth 100000 in
set_option maxHeartbeats 1000000 in
theorem recovered_any (s : ByteArray) (w : World) (hs : s.size ≤ 6000000) : Calls Tryz.prog 38 #[.string s] w (RetOpen w (recL s) (recE s)) := by
 obtain ⟨i0, ji, jz0, jz1, jz2⟩ := info_parts info_rec
 go_enter Tryz.func38, Tryz.ntmps38
 go_wp2
 have ho := World.ownsRow_nil w w.heap.size 60 2
 go_loopw [4, 5] (fun v i wr => ∃ (k a : Nat) (L : List CR), Hid (Stand s k a L) ∧ k ≤ 60 ∧ a ≤ s.size ∧ i = .int .i64 a ∧ wr.ownsRow w.heap.size 60 2 v k (recsV L) ∧ Below w.heap.size w wr) (fun _ i _ => s.size - (intOf i).toNat)
 case atStart => exact ⟨0, 0, [], Lib.hid (stand_start s), by omega, Nat.zero_le _, rfl, by simpa [recsV] using ho, (by repeat (first | exact ext_refl _ | assumption | refine ext_alloc ?_ _ | refine ext_drew ?_ | refine ext_drewN ?_ _ | refine ext_set ?_ (by simp <;> omega) _ | refine ext_trans ?_ (by assumption)))⟩
 case round =>
  obtain ⟨k, a, L, hst, hk, ha, rfl, hown, hbl⟩ := hrel
  obtain ⟨A', c', rfl⟩ := own_shape hown
  by_cases hgo : k < 60
  · obtain ⟨Z, hZ⟩ : ∃ Z, ln s a = Z := ⟨_, rfl⟩
    have zZ : a + Z.size ≤ s.size := by have := lnEnd_le (s := s) (a := a) ha; unfold lnEnd at this; rw [hZ] at this; exact this
    have hmiss := Lib.hid (fun j h1 h2 hj => ln_miss (s := s) (a := a) (j := j) h1 h2 hj)
    have HLE := Lib.hid (show lnEnd s a = a + Z.size by rw [lnEnd, hZ])
    go_wp2
    go_loopw [6] (fun j wx => ∃ m : Nat, j = .int .i64 m ∧ a ≤ m ∧ m ≤ a + Z.size ∧ wx = wr) (fun j _ => s.size - (intOf j).toNat)
    case atStart => exact ⟨a, rfl, by omega, by omega, rfl⟩
    case round =>
     rename_i hrel
     obtain ⟨m, rfl, hm1, hm2, rfl⟩ := hrel
     by_cases hm : m = a + Z.size
     · have HM := Lib.hid (show lnEnd s a = m by rw [HLE.out, hm])
       clear hm
       by_cases hnl : m < s.size
       · have hd : ((s[m].toNat : Int) == 10) = true := by
          have h2 : s[m] = 10 := ln_hit' HM.out hnl
          rw [h2]; rfl
         have hY : s.extract a m = Z := by rw [← HM.out, ln_extract, hZ]
         have HY := Lib.hid hY
         have HR := Lib.hid (fun w => decode_any k Z w (by omega) (by omega))
         obtain ⟨C, hC⟩ : ∃ C, dC k Z = C := ⟨_, rfl⟩
         obtain ⟨R, hR⟩ : ∃ R, dR k Z = R := ⟨_, rfl⟩
         obtain ⟨ok, hok⟩ : ∃ ok, dOk k Z = ok := ⟨_, rfl⟩
         rw [hC, hR, hok] at HR
         have hstep : stepB s a k = ok := by rw [stepB, HM.out, hZ, hok]; simp [hnl]
         have hnext := Lib.hid (stand_next (s := s) (k := k) (a := a) (L := L) hst.out hgo)
         have hstop := Lib.hid (stand_end (s := s) (k := k) (a := a) (L := L) hst.out)
         rw [hstep, HM.out, hZ, hC, hR] at hnext
         rw [hstep] at hstop
         clear hY hZ hC hR hok hstep
         go_wp2_with fail
         rw [HY.out]
         refine (HR.out _).mono ?_
         rintro e w' ⟨rfl, hb2⟩
         obtain ⟨hc2, hf2⟩ := bcell hb2
         have hz2 := hb2.size
         have m1 : k + 1 ≤ maxLen := by unfold maxLen; omega
         have m2 : (k + 1) * 32 ≤ 140737488355328 := by omega
         have m3 := hbl.size
         cases ok
         · go_wp2_with fail
           go_ret2
           obtain ⟨e1, e2⟩ := hstop.out (by simp)
           have e3 := hst.out.2.2.1
           refine ⟨A', c', ?_, ?_, (by repeat (first | exact ext_refl _ | assumption | refine ext_alloc ?_ _ | refine ext_drew ?_ | refine ext_drewN ?_ _ | refine ext_set ?_ (by simp <;> omega) _ | refine ext_trans ?_ (by assumption)))⟩
           · rw [← e1, ← e2, e3]; rfl
           · rw [← e1, e3]
             exact (own_ext hown hb2).alloc _
         · go_wp2_with (at_builtin; refine wpList_append_own _ rfl (.tmp 43) (.tmp 45) 62 rfl w.heap.size 60 i0 _ 2 32 Tryz.underlying62 ji jz0 jz1 jz2 rfl (by decide) _ _ _ rfl (((own_ext hown hb2).alloc _).alloc _) _ 1 1 [.string C, .string R] rfl rfl (cells_new_at _ [.string C, .string R] _ (by simp)) (by simp [Value.oneCell']) m1 m2 (by simp; omega) ?_; intro v' w2 hown2 hgrow _)
           go_roundw
           case rel =>
            have h4 : a + (Z.size + 1) = m + 1 := by have := HM.out; rw [HLE.out] at this; omega
            refine ⟨k + 1, m + 1, L ++ [(C, R)], Lib.hid (hnext.out (by simp)), by omega, by omega, ?_, ?_, below_grown hown (by repeat (first | exact ext_refl _ | assumption | refine ext_alloc ?_ _ | refine ext_drew ?_ | refine ext_drewN ?_ _ | refine ext_set ?_ (by simp <;> omega) _ | refine ext_trans ?_ (by assumption))) hgrow⟩
            · rw [← h4]; go_num
            · rw [recsV_snoc]
              exact hown2
           case measure => simp [intOf]; omega
       · have hE : m = s.size := by omega
         have hE2 := Lib.hid (stand_end (s := s) (k := k) (a := a) (L := L) hst.out)
         have hno := Lib.hid (show stepB s a k = false by rw [stepB, HM.out, decide_eq_false hnl]; rfl)
         go_wp2_with fail
         go_ret2
         obtain ⟨e1, e2⟩ := hE2.out (Or.inl hno.out)
         have e3 := hst.out.2.2.1
         refine ⟨A', c', ?_, ?_, (by repeat (first | exact ext_refl _ | assumption | refine ext_alloc ?_ _ | refine ext_drew ?_ | refine ext_drewN ?_ _ | refine ext_set ?_ (by simp <;> omega) _ | refine ext_trans ?_ (by assumption)))⟩
         · rw [← e1, ← e2, e3]; rfl
         · rw [← e1, e3]
           exact hown
     · have hms : m < s.size := by omega
       have hd : ((s[m].toNat : Int) == 10) = false := by
        rw [beq_eq_false_iff_ne]
        intro e
        exact hmiss.out m hm1 (by rw [HLE.out]; omega) hms (UInt8.toNat_inj.1 (by have : (10 : UInt8).toNat = 10 := rfl; omega))
       go_wp2
       go_roundw
       case rel => exact ⟨m + 1, by go_num, by omega, by omega, trivial⟩
       case measure => simp [intOf]; omega
  · have hE := Lib.hid (stand_end (s := s) (k := k) (a := a) (L := L) hst.out)
    go_wp2_with fail
    go_ret2
    obtain ⟨e1, e2⟩ := hE.out (Or.inr (by omega))
    have e3 := hst.out.2.2.1
    refine ⟨A', c', ?_, ?_, (by repeat (first | exact ext_refl _ | assumption | refine ext_alloc ?_ _ | refine ext_drew ?_ | refine ext_drewN ?_ _ | refine ext_set ?_ (by simp <;> omega) _ | refine ext_trans ?_ (by assumption)))⟩
    · rw [← e1, ← e2, e3]; rfl
    · rw [← e1, e3]; exact hown
end Go.Proofs.YtkcbgiegoadkbaaGreat
namespace Go.Proofs.YtkcbgiegoadkbaaGreat
open Go.RowKit
set_option linter.unusedVariables false
set_option linter.unusedSimpArgs false
theorem logB_of (d p : ByteArray) (z : Int) {E F N : Nat} (hE : recE (d ++ p) = E) (hF : recE d = F) (hN : (recL (d ++ p)).length = N) :
 logB d p z = (decide ((E : Int) = d.size + p.size) && decide ((F : Int) = d.size) && decide (z = (N : Int))) := by
 unfold logB; rw [hE, hF, hN]
theorem beq_cases (a b : Int) : ((a == b) = true ∧ decide (a = b) = true) ∨ ((a == b) = false ∧ decide (a = b) = false) := by
 by_cases h : a = b
 · exact .inl ⟨by simpa using h, by simpa using h⟩
 · exact .inr ⟨by simpa using h, by simpa using h⟩

set_option maxHeartbeats 1000000 in
theorem isValidLog_any (d p : ByteArray) (z : Int) (w : World) (hd : d.size ≤ 2000000) (hp : p.size ≤ 2000000) :
 Calls Tryz.prog 36 #[logV d p z] w fun e w' => e = .returned (.bool (logB d p z)) ∧ Below w.heap.size w w' := by
 have zdp : (d ++ p).size = d.size + p.size := ByteArray.size_append
 skip
 have H1 := Lib.hid (fun w => recovered_any (d ++ p) w (by omega))
 have H2 := Lib.hid (fun w => recovered_any d w (by omega))
 have e1 := recE_le (d ++ p)
 have e2 := recE_le d
 have e3 := recL_len (d ++ p)
 obtain ⟨E, hE⟩ : ∃ E, recE (d ++ p) = E := ⟨_, rfl⟩
 obtain ⟨F, hF⟩ : ∃ F, recE d = F := ⟨_, rfl⟩
 have hB := Lib.hid (logB_of d p z hE hF rfl)
 rw [hE] at H1 e1
 rw [hF] at H2 e2
 obtain ⟨L, hL⟩ : ∃ L, recL (d ++ p) = L := ⟨_, rfl⟩
 rw [hL] at H1 e3 hB
 obtain ⟨N, hN⟩ : ∃ N, L.length = N := ⟨_, rfl⟩
 unfold RetOpen at H1
 rw [hN] at H1 e3 hB
 rw [hB.out]
 clear hE hF hL hN hB zdp
 go_enter Tryz.func36, Tryz.ntmps36
 go_wp2_with fail
 refine (H1.out _).mono ?_
 rintro e w1 ⟨A1, c1, rfl, _, hb1⟩
 obtain ⟨hc1, hf1⟩ := bcell hb1
 have hz1 : w.heap.size < w1.heap.size := by have := hb1.size; simp at this; omega
 go_wp2_with fail
 refine (H2.out _).mono ?_
 rintro e w2 ⟨A2, c2, rfl, _, hb2⟩
 obtain ⟨hc2, hf2⟩ := bcell hb2
 have hz2 : w.heap.size < w2.heap.size := by have := hb2.size; omega
 rcases beq_cases (E : Int) (d.size + p.size) with ⟨k1, t1⟩ | ⟨k1, t1⟩
 · have T1 := Lib.hid t1
   clear t1
   rcases beq_cases (F : Int) d.size with ⟨k2, t2⟩ | ⟨k2, t2⟩
   all_goals have T2 := Lib.hid t2
   all_goals clear t2
   all_goals go_wp2
   all_goals go_ret
   all_goals refine ⟨ret_bool ?_, (by repeat (first | exact ext_refl _ | assumption | refine ext_alloc ?_ _ | refine ext_drew ?_ | refine ext_drewN ?_ _ | refine ext_set ?_ (by simp <;> omega) _ | refine ext_trans ?_ (by assumption)))⟩
   all_goals rw [T1.out, T2.out]
   all_goals first | rfl | simp
   all_goals first | rfl | (rw [Bool.eq_iff_iff]; simp; omega)
 · have T1 := Lib.hid t1
   clear t1
   go_wp2
   go_ret
   refine ⟨ret_bool ?_, (by repeat (first | exact ext_refl _ | assumption | refine ext_alloc ?_ _ | refine ext_drew ?_ | refine ext_drewN ?_ _ | refine ext_set ?_ (by simp <;> omega) _ | refine ext_trans ?_ (by assumption)))⟩
   rw [T1.out]
   first | rfl | simp

set_option maxHeartbeats 1000000 in
theorem l27Log_small (d p : ByteArray) (z : Int) (w : World) (hd : d.size ≤ 2000000) (hp : p.size ≤ 2000000) :
 Calls Tryz.prog 24 #[logV d p z] w fun e w' => e = .returned (.bool (logB d p z)) ∧ Below w.heap.size w w' := by
 have zdp : (d ++ p).size = d.size + p.size := ByteArray.size_append
 by_cases hbig : (30000 : Int) < (d.size : Int) + (p.size : Int)
 · have hno : logB d p z = false := by rw [Bool.eq_false_iff]; intro h; have := logB_size h; omega
   rw [hno]
   clear hno zdp
   go_enter Tryz.func24, Tryz.ntmps24
   go_wp2
   go_ret
   exact ⟨rfl, (by repeat (first | exact ext_refl _ | assumption | refine ext_alloc ?_ _ | refine ext_drew ?_ | refine ext_drewN ?_ _ | refine ext_set ?_ (by simp <;> omega) _ | refine ext_trans ?_ (by assumption)))⟩
 have H1 := Lib.hid (fun w => l27Open_any (d ++ p) w (by omega))
 have H2 := Lib.hid (fun w => l27Open_any d w (by omega))
 have e1 := recE_le (d ++ p)
 have e2 := recE_le d
 have e3 := recL_len (d ++ p)
 obtain ⟨E, hE⟩ : ∃ E, recE (d ++ p) = E := ⟨_, rfl⟩
 obtain ⟨F, hF⟩ : ∃ F, recE d = F := ⟨_, rfl⟩
 have hB := Lib.hid (logB_of d p z hE hF rfl)
 rw [hE] at H1 e1
 rw [hF] at H2 e2
 obtain ⟨L, hL⟩ : ∃ L, recL (d ++ p) = L := ⟨_, rfl⟩
 rw [hL] at H1 e3 hB
 obtain ⟨N, hN⟩ : ∃ N, L.length = N := ⟨_, rfl⟩
 unfold RetOpen at H1
 rw [hN] at H1 e3 hB
 rw [hB.out]
 clear hE hF hL hN hB zdp
 go_enter Tryz.func24, Tryz.ntmps24
 go_wp2_with fail
 refine (H1.out _).mono ?_
 rintro e w1 ⟨A1, c1, rfl, _, hb1⟩
 obtain ⟨hc1, hf1⟩ := bcell hb1
 have hz1 : w.heap.size < w1.heap.size := by have := hb1.size; simp at this; omega
 go_wp2_with fail
 refine (H2.out _).mono ?_
 rintro e w2 ⟨A2, c2, rfl, _, hb2⟩
 obtain ⟨hc2, hf2⟩ := bcell hb2
 have hz2 : w.heap.size < w2.heap.size := by have := hb2.size; omega
 rcases beq_cases (E : Int) (d.size + p.size) with ⟨k1, t1⟩ | ⟨k1, t1⟩
 · have T1 := Lib.hid t1
   clear t1
   rcases beq_cases (F : Int) d.size with ⟨k2, t2⟩ | ⟨k2, t2⟩
   all_goals have T2 := Lib.hid t2
   all_goals clear t2
   all_goals go_wp2
   all_goals go_ret
   all_goals refine ⟨ret_bool ?_, (by repeat (first | exact ext_refl _ | assumption | refine ext_alloc ?_ _ | refine ext_drew ?_ | refine ext_drewN ?_ _ | refine ext_set ?_ (by simp <;> omega) _ | refine ext_trans ?_ (by assumption)))⟩
   all_goals rw [T1.out, T2.out]
   all_goals first | rfl | simp
   all_goals first | rfl | (rw [Bool.eq_iff_iff]; simp; omega)
 · have T1 := Lib.hid t1
   clear t1
   go_wp2
   go_ret
   refine ⟨ret_bool ?_, (by repeat (first | exact ext_refl _ | assumption | refine ext_alloc ?_ _ | refine ext_drew ?_ | refine ext_drewN ?_ _ | refine ext_set ?_ (by simp <;> omega) _ | refine ext_trans ?_ (by assumption)))⟩
   rw [T1.out]
   first | rfl | simp
end Go.Proofs.YtkcbgiegoadkbaaGreat
namespace Go.Proofs.YtkcbgiegoadkbaaGreat
open Go.RowKit
set_option linter.unusedVariables false
set_option linter.unusedSimpArgs false
def syncD (d p : ByteArray) (z : Int) : ByteArray := if logB d p z = true then d ++ p else ⟨#[]⟩
def syncZ (d p : ByteArray) (z : Int) : Int := if logB d p z = true then z else 0
def rcvD (s : ByteArray) : ByteArray := if s.size ≤ 30000 then s.extract 0 (recE s) else ⟨#[]⟩
def rcvN (s : ByteArray) : Nat := if s.size ≤ 30000 then (recL s).length else 0
def rcvE (s : ByteArray) : Nat := if s.size ≤ 30000 then recE s else 0
/-- what appending makes of the pending bytes and of the count, and its code -/
def appOk (d p : ByteArray) (z : Int) (c r : ByteArray) : Bool := logB d p z && recB c r
def appP (d p : ByteArray) (z : Int) (c r : ByteArray) : ByteArray := if appOk d p z c r = true ∧ z ≠ 60 then p ++ lineB z c r else p
def appZ (d p : ByteArray) (z : Int) (c r : ByteArray) : Int := if appOk d p z c r = true ∧ z ≠ 60 then z + 1 else z
def appC (d p : ByteArray) (z : Int) (c r : ByteArray) : Int := if appOk d p z c r = true then (if z = 60 then 2 else 0) else 1
theorem app_cases (d p : ByteArray) (z : Int) (c r : ByteArray) (P : ByteArray → Int → Int → Prop) (h1 : logB d p z = false → P p z 1) (h2 : logB d p z = true → recB c r = false → P p z 1)
 (h3 : logB d p z = true → recB c r = true → z = 60 → P p z 2) (h4 : logB d p z = true → recB c r = true → 0 ≤ z → z ≤ 59 → P (p ++ lineB z c r) (z + 1) 0) : P (appP d p z c r) (appZ d p z c r) (appC d p z c r) := by
 rcases hl : logB d p z with _ | _
 · simpa [appP, appZ, appC, appOk, hl] using h1 hl
 · rcases hr : recB c r with _ | _
   · simpa [appP, appZ, appC, appOk, hl, hr] using h2 hl hr
   · by_cases hz : z = 60
     · rw [show appP d p z c r = p from by simp [appP, hz], show appZ d p z c r = z from by simp [appZ, hz], show appC d p z c r = 2 from by rw [appC, appOk, hl, hr, if_pos (by rfl), if_pos hz]]
       exact h3 hl hr hz
     · have := logB_count hl
       simpa [appP, appZ, appC, appOk, hl, hr, hz] using h4 hl hr this.1 (by omega)

theorem specSync_any (d p : ByteArray) (z : Int) (w : World) (hd : d.size ≤ 2000000) (hp : p.size ≤ 2000000) :
 Calls Tryz.prog 101 #[logV d p z] w fun e w' => e = .returned (.tuple #[logV (syncD d p z) ⟨#[]⟩ (syncZ d p z), .bool (logB d p z)]) ∧ Below w.heap.size w w' := by
 have HV := Lib.hid (fun w => l27Log_small d p z w hd hp)
 rcases hb : logB d p z with _ | _
 · rw [show syncD d p z = ⟨#[]⟩ from by simp [syncD, hb], show syncZ d p z = 0 from by simp [syncZ, hb]]
   rw [hb] at HV
   clear hb
   go_enter Tryz.func101, Tryz.ntmps101
   go_wp2_with (go_at_call 24; refine (HV.out _).mono ?_; rintro e w' ⟨rfl, hb⟩; obtain ⟨hc, hf⟩ := bcell hb; have hz : w.heap.size < w'.heap.size := by (have := hb.size; (try simp at this); omega))
   refine bodyPost_ret (v := .tuple #[logV ⟨#[]⟩ ⟨#[]⟩ 0, .bool false]) (by simp [results, Tryz.results101, go_sem, hc, hf, hz]) rfl ⟨rfl, (by repeat (first | exact ext_refl _ | assumption | refine ext_alloc ?_ _ | refine ext_drew ?_ | refine ext_drewN ?_ _ | refine ext_set ?_ (by simp <;> omega) _ | refine ext_trans ?_ (by assumption)))⟩
 · rw [show syncD d p z = d ++ p from by simp [syncD, hb], show syncZ d p z = z from by simp [syncZ, hb]]
   rw [hb] at HV
   clear hb
   go_enter Tryz.func101, Tryz.ntmps101
   go_wp2_with (go_at_call 24; refine (HV.out _).mono ?_; rintro e w' ⟨rfl, hb⟩; obtain ⟨hc, hf⟩ := bcell hb; have hz : w.heap.size < w'.heap.size := by (have := hb.size; (try simp at this); omega))
   refine bodyPost_ret (v := .tuple #[logV (d ++ p) ⟨#[]⟩ z, .bool true]) (by simp [results, Tryz.results101, go_sem, hc, hf, hz]) rfl ⟨rfl, (by repeat (first | exact ext_refl _ | assumption | refine ext_alloc ?_ _ | refine ext_drew ?_ | refine ext_drewN ?_ _ | refine ext_set ?_ (by simp <;> omega) _ | refine ext_trans ?_ (by assumption)))⟩

theorem implRecover_any (s : ByteArray) (w : World) (hs : s.size ≤ 6000000) :
 Calls Tryz.prog 15 #[.string s] w fun e w' => e = .returned (.tuple #[logV (rcvD s) ⟨#[]⟩ (rcvN s), .int .i64 (rcvE s), .bool (decide (s.size ≤ 30000))]) ∧ Below w.heap.size w w' := by
 by_cases hbig : s.size ≤ 30000
 · rw [show rcvD s = s.extract 0 (recE s) from by simp [rcvD, hbig], show rcvN s = (recL s).length from by simp [rcvN, hbig], show rcvE s = recE s from by simp [rcvE, hbig], decide_eq_true hbig]
   have HV := Lib.hid (fun w => recovered_any s w (by omega))
   have e1 := recE_le s
   have e3 := recL_len s
   obtain ⟨E, hE⟩ : ∃ E, recE s = E := ⟨_, rfl⟩
   obtain ⟨L, hL⟩ : ∃ L, recL s = L := ⟨_, rfl⟩
   rw [hL] at HV e3
   obtain ⟨N, hN⟩ : ∃ N, L.length = N := ⟨_, rfl⟩
   unfold RetOpen at HV
   rw [hE] at HV e1
   rw [hN] at HV e3
   rw [hE, hL, hN]
   clear hE hL hN
   go_enter Tryz.func15, Tryz.ntmps15
   go_wp2_with fail
   refine (HV.out _).mono ?_
   rintro e w1 ⟨A1, c1, rfl, _, hb⟩
   obtain ⟨hc, hf⟩ := bcell hb
   have hz : w.heap.size < w1.heap.size := by have := hb.size; simp at this; omega
   go_wp2
   refine bodyPost_ret (v := .tuple #[logV (s.extract 0 E) ⟨#[]⟩ N, .int .i64 E, .bool true]) (by simp [results, Tryz.results15, go_sem, hc, hf, hz]) rfl ⟨rfl, (by repeat (first | exact ext_refl _ | assumption | refine ext_alloc ?_ _ | refine ext_drew ?_ | refine ext_drewN ?_ _ | refine ext_set ?_ (by simp <;> omega) _ | refine ext_trans ?_ (by assumption)))⟩
 · rw [show rcvD s = ⟨#[]⟩ from by simp [rcvD, hbig], show rcvN s = 0 from by simp [rcvN, hbig], show rcvE s = 0 from by simp [rcvE, hbig], decide_eq_false hbig]
   go_enter Tryz.func15, Tryz.ntmps15
   go_wp2
   refine bodyPost_ret (v := .tuple #[logV ⟨#[]⟩ ⟨#[]⟩ 0, .int .i64 0, .bool false]) (by simp [results, Tryz.results15, go_sem]) rfl ⟨rfl, (by repeat (first | exact ext_refl _ | assumption | refine ext_alloc ?_ _ | refine ext_drew ?_ | refine ext_drewN ?_ _ | refine ext_set ?_ (by simp <;> omega) _ | refine ext_trans ?_ (by assumption)))⟩

end Go.Proofs.YtkcbgiegoadkbaaGreat
namespace Go.Proofs.YtkcbgiegoadkbaaGreat
open Go.RowKit
set_option linter.unusedVariables false
set_option linter.unusedSimpArgs false
/-- the text of a mark -/
def mkT (k : Nat) : ByteArray := ⟨#[109]⟩ ++ dec k
end Go.Proofs.YtkcbgiegoadkbaaGreat
namespace Go.Proofs.YtkcbgiegoadkbaaGreat
open Go.RowKit
set_option linter.unusedVariables false
set_option linter.unusedSimpArgs false
abbrev conV (day : Int) (A : Option Addr) (n c : Nat) (pa le : Int) (d p : ByteArray) (z : Int) : Value := .agg #[.int .i64 day, .slice A n c, .int .i64 pa, .int .i64 le, .string d, .string p, .int .i64 z]
def OwnCon (day pa le : Int) (d p : ByteArray) (z : Int) (n : Nat) (l : List R5) (w : World) (e : Ending) (w' : World) : Prop :=
 ∃ A' c', e = .returned (conV day A' n c' pa le d p z) ∧ w'.ownsRow w.heap.size 111 5 (.slice A' n c') n (rowsV l) ∧ Below w.heap.size w w'
end Go.Proofs.YtkcbgiegoadkbaaGreat
namespace Go.Proofs.YtkcbgiegoadkbaaGreat
open Go.RowKit
set_option linter.unusedVariables false
set_option linter.unusedSimpArgs false
/-- a console of the call's own comes back beside a bool -/
def RetConB (D pa le : Int) (d p : ByteArray) (z : Int) (n : Nat) (l : List R5) (ok : Bool) (w : World) (e : Ending) (w' : World) : Prop :=
 ∃ A c, e = .returned (.tuple #[conV D A n c pa le d p z, .bool ok]) ∧ w'.ownsRow w.heap.size 111 5 (.slice A n c) n (rowsV l) ∧ Below w.heap.size w w'
def newD (day : Int) : Int := if inB day 0 4000 = true then day else 0
def RetNew (day : Int) (w : World) (e : Ending) (w' : World) : Prop :=
 ∃ A c, e = .returned (.tuple #[schV (newD day) A 0 c 0 0, .bool (inB day 0 4000)]) ∧ w'.ownsRow w.heap.size 111 5 (.slice A 0 c) 0 [] ∧ SlOk A 0 c ∧ Below w.heap.size w w'
theorem implNewSchool_any (day : Int) (w : World) : Calls Tryz.prog 27 #[.int .i64 day] w (RetNew day w) := by
 unfold RetNew newD
 have HC := Lib.hid (fun w => isDay_any day w)
 rcases hb : inB day 0 4000 with _ | _
 all_goals
  rw [hb] at HC
  clear hb
  go_enter Tryz.func27, Tryz.ntmps27
  go_wp2_with (go_at_call 52; refine (HC.out _).mono ?_; rintro e w' ⟨rfl, rfl⟩)
 · refine bodyPost_ret (v := .tuple #[schV 0 none 0 0 0 0, .bool false]) (by simp [results, Tryz.results27, go_sem]) rfl ⟨none, 0, rfl, World.ownsRow_nil _ _ _ _, fun _ => ⟨rfl, rfl⟩, ext_alloc (ext_refl _) _⟩
 · refine bodyPost_ret (v := .tuple #[schV day none 0 0 0 0, .bool true]) (by simp [results, Tryz.results27, go_sem]) rfl ⟨none, 0, rfl, World.ownsRow_nil _ _ _ _, fun _ => ⟨rfl, rfl⟩, ext_alloc (ext_refl _) _⟩
theorem specNewSchool_any (day : Int) (w : World) : Calls Tryz.prog 28 #[.int .i64 day] w (RetNew day w) := by
 unfold RetNew newD
 have HC := Lib.hid (fun w => l2Day_any day w)
 rcases hb : inB day 0 4000 with _ | _
 all_goals
  rw [hb] at HC
  clear hb
  go_enter Tryz.func28, Tryz.ntmps28
  go_wp2_with (go_at_call 53; refine (HC.out _).mono ?_; rintro e w' ⟨rfl, rfl⟩)
 · refine bodyPost_ret (v := .tuple #[schV 0 none 0 0 0 0, .bool false]) (by simp [results, Tryz.results28, go_sem]) rfl ⟨none, 0, rfl, World.ownsRow_nil _ _ _ _, fun _ => ⟨rfl, rfl⟩, ext_alloc (ext_refl _) _⟩
 · refine bodyPost_ret (v := .tuple #[schV day (some ⟨w.heap.size + 1, 0, none⟩) 0 0 0 0, .bool true]) (by simp [results, Tryz.results28, go_sem]) rfl ⟨_, _, rfl, own_base (base := w.heap.size + 1) (by have := own_lit0 (w.alloc (.cells #[.int .i64 day, .slice (some ⟨w.heap.size + 1, 0, none⟩) 0 0, .int .i64 0, .int .i64 0] 32)) 111 5; simpa using this) (by omega), (fun h => by cases h), ext_alloc (ext_alloc (ext_refl _) _) _⟩

theorem implNewConsole_any (day : Int) (w : World) : Calls Tryz.prog 9 #[.int .i64 day] w (RetConB (newD day) 0 0 ⟨#[]⟩ ⟨#[]⟩ 0 0 [] (inB day 0 4000) w) := by
 have HN := Lib.hid (fun w => implNewSchool_any day w)
 unfold RetConB
 unfold RetNew at HN
 obtain ⟨D, hD⟩ : ∃ D, newD day = D := ⟨_, rfl⟩
 have hno : inB day 0 4000 = false → D = 0 := fun h => by rw [← hD, newD, h]; rfl
 rw [hD] at HN
 rw [hD]
 clear hD
 rcases hb : inB day 0 4000 with _ | _
 all_goals
  rw [hb] at HN
  have hno := hno
  go_enter Tryz.func9, Tryz.ntmps9
  go_wp2_with fail
  refine (HN.out _).mono ?_
  rintro e w1 ⟨A1, c1, rfl, ho, _, hb1⟩
  obtain ⟨hc1, hf1⟩ := bcell hb1
  have z0 : w.heap.size < w1.heap.size := by (have := hb1.size; simp at this; omega)
  have b1 := Lib.hid (ext_trans (ext_alloc (ext_refl w) _) hb1)
  have ho := Lib.hid (show w1.ownsRow (w.heap.size + 1) 111 5 (.slice A1 0 c1) 0 (rowsV []) from own_base ho (by simp))
  have hno := Lib.hid hno
  clear hb1
  go_wp2
 · refine bodyPost_ret (v := .tuple #[conV D A1 0 c1 0 0 ⟨#[]⟩ ⟨#[]⟩ 0, .bool false]) (by simp [results, Tryz.results9, go_sem, *]) rfl ?_
   refine ⟨A1, c1, rfl, own_base (base := w.heap.size + 1) ?_ (by omega), ?_⟩
   · repeat (first | (with_reducible exact ho.out) | (with_reducible refine own_set ?_ (by show w.heap.size < w.heap.size + 1; omega) _) | refine own_ext ?_ (ext_alloc (ext_refl _) _))
   · repeat (first | (with_reducible exact b1.out) | (with_reducible refine ext_set ?_ (by simp <;> omega) _) | refine ext_alloc ?_ _)
 · refine bodyPost_ret (v := .tuple #[conV D A1 0 c1 0 0 ⟨#[]⟩ ⟨#[]⟩ 0, .bool true]) (by simp [results, Tryz.results9, go_sem, *]) rfl ?_
   refine ⟨A1, c1, rfl, own_base (base := w.heap.size + 1) ?_ (by omega), ?_⟩
   · repeat (first | (with_reducible exact ho.out) | (with_reducible refine own_set ?_ (by show w.heap.size < w.heap.size + 1; omega) _) | refine own_ext ?_ (ext_alloc (ext_refl _) _))
   · repeat (first | (with_reducible exact b1.out) | (with_reducible refine ext_set ?_ (by simp <;> omega) _) | refine ext_alloc ?_ _)

theorem specNewConsole_any (day : Int) (w : World) : Calls Tryz.prog 10 #[.int .i64 day] w (RetConB (newD day) 0 0 ⟨#[]⟩ ⟨#[]⟩ 0 0 [] (inB day 0 4000) w) := by
 have HN := Lib.hid (fun w => specNewSchool_any day w)
 unfold RetConB
 unfold RetNew at HN
 obtain ⟨D, hD⟩ : ∃ D, newD day = D := ⟨_, rfl⟩
 have hno : inB day 0 4000 = false → D = 0 := fun h => by rw [← hD, newD, h]; rfl
 rw [hD] at HN
 rw [hD]
 clear hD
 rcases hb : inB day 0 4000 with _ | _
 all_goals
  rw [hb] at HN
  have hno := hno
  go_enter Tryz.func10, Tryz.ntmps10
  go_wp2_with fail
  refine (HN.out _).mono ?_
  rintro e w1 ⟨A1, c1, rfl, ho, _, hb1⟩
  obtain ⟨hc1, hf1⟩ := bcell hb1
  have z0 : w.heap.size < w1.heap.size := by (have := hb1.size; simp at this; omega)
  have b1 := Lib.hid (ext_trans (ext_alloc (ext_refl w) _) hb1)
  have ho := Lib.hid (show w1.ownsRow (w.heap.size + 1) 111 5 (.slice A1 0 c1) 0 (rowsV []) from own_base ho (by simp))
  have hno := Lib.hid hno
  clear hb1
  go_wp2
 · refine bodyPost_ret (v := .tuple #[conV 0 none 0 0 0 0 ⟨#[]⟩ ⟨#[]⟩ 0, .bool false]) (by simp [results, Tryz.results10, go_sem, *]) rfl ?_
   rw [hno.out hb]
   refine ⟨none, 0, rfl, World.ownsRow_nil _ _ _ _, ?_⟩
   repeat (first | (with_reducible exact b1.out) | (with_reducible refine ext_set ?_ (by simp <;> omega) _) | refine ext_alloc ?_ _)
 · refine bodyPost_ret (v := .tuple #[conV D A1 0 c1 0 0 ⟨#[]⟩ ⟨#[]⟩ 0, .bool true]) (by simp [results, Tryz.results10, go_sem, *]) rfl ?_
   refine ⟨A1, c1, rfl, own_base (base := w.heap.size + 1) ?_ (by omega), ?_⟩
   · repeat (first | (with_reducible exact ho.out) | (with_reducible refine own_set ?_ (by show w.heap.size < w.heap.size + 1; omega) _) | refine own_ext ?_ (ext_alloc (ext_refl _) _))
   · repeat (first | (with_reducible exact b1.out) | (with_reducible refine ext_set ?_ (by simp <;> omega) _) | refine ext_alloc ?_ _)
end Go.Proofs.YtkcbgiegoadkbaaGreat
namespace Go.Proofs.YtkcbgiegoadkbaaGreat
open Go.RowKit
set_option linter.unusedVariables false
set_option linter.unusedSimpArgs false
set_option maxRecDepth 100000 in
set_option maxHeartbeats 4000000 in
theorem stepped_else (day pa le k id v : Int) (A : Option Addr) (n c : Nat) (l : List R5) (w : World) (hn : n ≤ 8) (hA : SlOk A n c) (h : Reads w w.heap.size 5 A n (rowsV l)) (hk : ¬ (k = 1 ∨ k = 2 ∨ k = 3 ∨ k = 4 ∨ k = 5 ∨ k = 6)) :
 Calls Tryz.prog 60 #[schV day A n c pa le, .agg #[.int .i64 k, .int .i64 id, .int .i64 v]] w (RetSch none w) := by
 have hk1 : (k == 1) = false := by rw [beq_eq_false_iff_ne]; omega
 have hk2 : (k == 2) = false := by rw [beq_eq_false_iff_ne]; omega
 have hk3 : (k == 3) = false := by rw [beq_eq_false_iff_ne]; omega
 have hk4 : (k == 4) = false := by rw [beq_eq_false_iff_ne]; omega
 have hk5 : (k == 5) = false := by rw [beq_eq_false_iff_ne]; omega
 have hk6 : (k == 6) = false := by rw [beq_eq_false_iff_ne]; omega
 have H := Lib.hid h
 have HL := Lib.hid (rows_len h)
 have HA := Lib.hid (fun w h => own_any day pa le A n c l w (by omega) hA h)
 clear h
 go_enter Tryz.func60, Tryz.ntmps60
 go_wp2_with fail
 refine (HA.out _ ((H.out.ext (ext_alloc (ext_alloc (ext_alloc (ext_refl _) _) _) _) (Nat.le_refl _)).more (by simp; omega))).mono ?_
 rintro e w1 ⟨A1, c1, rfl, hown, hb1⟩
 have z0 : w.heap.size + 1 + 1 < w1.heap.size := by (have := hb1.size; simp at this; omega)
 have z1 : w.heap.size + 1 < w1.heap.size := by omega
 have z2 : w.heap.size < w1.heap.size := by omega
 have BX : Hid (Blk w1 w.heap.size 32 #[.int .i64 day, .slice A n c, .int .i64 pa, .int .i64 le]) := Lib.hid (((Blk.new w _ _).ext (ext_alloc (ext_alloc (ext_refl _) _) _)).ext hb1)
 have BY : Hid (Blk w1 (w.heap.size + 1) 82 #[.int .i64 k, .int .i64 id, .int .i64 v]) := Lib.hid (by
  have := ((Blk.new (w.alloc (.cells #[.int .i64 day, .slice A n c, .int .i64 pa, .int .i64 le] 32)) #[.int .i64 k, .int .i64 id, .int .i64 v] 82).ext (ext_alloc (ext_refl _) (.cells #[.int .i64 0, .slice none 0 0, .int .i64 0, .int .i64 0] 32))).ext hb1
  simpa using this)
 have BR : Hid (Blk w1 (w.heap.size + 1 + 1) 32 #[.int .i64 0, .slice none 0 0, .int .i64 0, .int .i64 0]) := Lib.hid (by
  have := (Blk.new ((w.alloc (.cells #[.int .i64 day, .slice A n c, .int .i64 pa, .int .i64 le] 32)).alloc (.cells #[.int .i64 k, .int .i64 id, .int .i64 v] 82)) #[.int .i64 0, .slice none 0 0, .int .i64 0, .int .i64 0] 32).ext hb1
  simpa using this)
 have hbw := Lib.hid (ext_trans (ext_alloc (ext_alloc (ext_alloc (ext_refl w) _) _) _) hb1)
 have HO : Hid (w1.ownsRow w.heap.size 111 5 (.slice A1 n c1) n (rowsV l)) := Lib.hid (own_base hown (by simp; omega))
 clear hb1 hown
 obtain ⟨x0, x1, x2, x3⟩ := BX.out.q4
 obtain ⟨fx0, fx1, fx2, fx3⟩ := BX.out.z4
 obtain ⟨y0, y1, y2⟩ := BY.out.q3
 obtain ⟨fy0, fy1, fy2⟩ := BY.out.z3
 obtain ⟨r0, r1, r2, r3⟩ := BR.out.q4
 obtain ⟨fr0, fr1, fr2, fr3⟩ := BR.out.z4
 go_wp2
 refine bodyPost_ret (v := .tuple #[schV 0 none 0 0 0 0, .bool false]) (by simp [results, Tryz.results60, go_sem, *]) rfl ⟨rfl, (by repeat (first | exact ext_refl _ | exact hbw.out | exact (hbw).out | refine ext_alloc ?_ _ | refine ext_set ?_ (by simp <;> omega) _))⟩
set_option maxRecDepth 100000 in
set_option maxHeartbeats 4000000 in
theorem stepped_wait_no (day pa le id v : Int) (A : Option Addr) (n c : Nat) (l : List R5) (w : World) (hn : n ≤ 8) (hA : SlOk A n c) (h : Reads w w.heap.size 5 A n (rowsV l)) (hk : id ≠ 0 ∨ v < 1) :
 Calls Tryz.prog 60 #[schV day A n c pa le, .agg #[.int .i64 1, .int .i64 id, .int .i64 v]] w (RetSch none w) := by
 rcases Classical.em (id = 0) with hi | hi
 · have hv : v < 1 := by rcases hk with h | h; exact absurd hi h; exact h
   have hv' : decide (v < 1) = true := by simpa using hv
   subst hi
   clear hk
   have H := Lib.hid h
   have HL := Lib.hid (rows_len h)
   have HA := Lib.hid (fun w h => own_any day pa le A n c l w (by omega) hA h)
   clear h
   go_enter Tryz.func60, Tryz.ntmps60
   go_wp2_with fail
   refine (HA.out _ ((H.out.ext (ext_alloc (ext_alloc (ext_alloc (ext_refl _) _) _) _) (Nat.le_refl _)).more (by simp; omega))).mono ?_
   rintro e w1 ⟨A1, c1, rfl, hown, hb1⟩
   have z0 : w.heap.size + 1 + 1 < w1.heap.size := by (have := hb1.size; simp at this; omega)
   have z1 : w.heap.size + 1 < w1.heap.size := by omega
   have z2 : w.heap.size < w1.heap.size := by omega
   have BX : Hid (Blk w1 w.heap.size 32 #[.int .i64 day, .slice A n c, .int .i64 pa, .int .i64 le]) := Lib.hid (((Blk.new w _ _).ext (ext_alloc (ext_alloc (ext_refl _) _) _)).ext hb1)
   have BY : Hid (Blk w1 (w.heap.size + 1) 82 #[.int .i64 1, .int .i64 0, .int .i64 v]) := Lib.hid (by
    have := ((Blk.new (w.alloc (.cells #[.int .i64 day, .slice A n c, .int .i64 pa, .int .i64 le] 32)) #[.int .i64 1, .int .i64 0, .int .i64 v] 82).ext (ext_alloc (ext_refl _) (.cells #[.int .i64 0, .slice none 0 0, .int .i64 0, .int .i64 0] 32))).ext hb1
    simpa using this)
   have BR : Hid (Blk w1 (w.heap.size + 1 + 1) 32 #[.int .i64 0, .slice none 0 0, .int .i64 0, .int .i64 0]) := Lib.hid (by
    have := (Blk.new ((w.alloc (.cells #[.int .i64 day, .slice A n c, .int .i64 pa, .int .i64 le] 32)).alloc (.cells #[.int .i64 1, .int .i64 0, .int .i64 v] 82)) #[.int .i64 0, .slice none 0 0, .int .i64 0, .int .i64 0] 32).ext hb1
    simpa using this)
   have hbw := Lib.hid (ext_trans (ext_alloc (ext_alloc (ext_alloc (ext_refl w) _) _) _) hb1)
   have HO : Hid (w1.ownsRow w.heap.size 111 5 (.slice A1 n c1) n (rowsV l)) := Lib.hid (own_base hown (by simp; omega))
   clear hb1 hown
   obtain ⟨x0, x1, x2, x3⟩ := BX.out.q4
   obtain ⟨fx0, fx1, fx2, fx3⟩ := BX.out.z4
   obtain ⟨y0, y1, y2⟩ := BY.out.q3
   obtain ⟨fy0, fy1, fy2⟩ := BY.out.z3
   obtain ⟨r0, r1, r2, r3⟩ := BR.out.q4
   obtain ⟨fr0, fr1, fr2, fr3⟩ := BR.out.z4
   go_wp2
   refine bodyPost_ret (v := .tuple #[schV 0 none 0 0 0 0, .bool false]) (by simp [results, Tryz.results60, go_sem, *]) rfl ⟨rfl, (by repeat (first | exact ext_refl _ | exact hbw.out | exact (hbw).out | refine ext_alloc ?_ _ | refine ext_set ?_ (by simp <;> omega) _))⟩
 · have hi' : (id != 0) = true := by simpa using hi
   clear hk hi
   have H := Lib.hid h
   have HL := Lib.hid (rows_len h)
   have HA := Lib.hid (fun w h => own_any day pa le A n c l w (by omega) hA h)
   clear h
   go_enter Tryz.func60, Tryz.ntmps60
   go_wp2_with fail
   refine (HA.out _ ((H.out.ext (ext_alloc (ext_alloc (ext_alloc (ext_refl _) _) _) _) (Nat.le_refl _)).more (by simp; omega))).mono ?_
   rintro e w1 ⟨A1, c1, rfl, hown, hb1⟩
   have z0 : w.heap.size + 1 + 1 < w1.heap.size := by (have := hb1.size; simp at this; omega)
   have z1 : w.heap.size + 1 < w1.heap.size := by omega
   have z2 : w.heap.size < w1.heap.size := by omega
   have BX : Hid (Blk w1 w.heap.size 32 #[.int .i64 day, .slice A n c, .int .i64 pa, .int .i64 le]) := Lib.hid (((Blk.new w _ _).ext (ext_alloc (ext_alloc (ext_refl _) _) _)).ext hb1)
   have BY : Hid (Blk w1 (w.heap.size + 1) 82 #[.int .i64 1, .int .i64 id, .int .i64 v]) := Lib.hid (by
    have := ((Blk.new (w.alloc (.cells #[.int .i64 day, .slice A n c, .int .i64 pa, .int .i64 le] 32)) #[.int .i64 1, .int .i64 id, .int .i64 v] 82).ext (ext_alloc (ext_refl _) (.cells #[.int .i64 0, .slice none 0 0, .int .i64 0, .int .i64 0] 32))).ext hb1
    simpa using this)
   have BR : Hid (Blk w1 (w.heap.size + 1 + 1) 32 #[.int .i64 0, .slice none 0 0, .int .i64 0, .int .i64 0]) := Lib.hid (by
    have := (Blk.new ((w.alloc (.cells #[.int .i64 day, .slice A n c, .int .i64 pa, .int .i64 le] 32)).alloc (.cells #[.int .i64 1, .int .i64 id, .int .i64 v] 82)) #[.int .i64 0, .slice none 0 0, .int .i64 0, .int .i64 0] 32).ext hb1
    simpa using this)
   have hbw := Lib.hid (ext_trans (ext_alloc (ext_alloc (ext_alloc (ext_refl w) _) _) _) hb1)
   have HO : Hid (w1.ownsRow w.heap.size 111 5 (.slice A1 n c1) n (rowsV l)) := Lib.hid (own_base hown (by simp; omega))
   clear hb1 hown
   obtain ⟨x0, x1, x2, x3⟩ := BX.out.q4
   obtain ⟨fx0, fx1, fx2, fx3⟩ := BX.out.z4
   obtain ⟨y0, y1, y2⟩ := BY.out.q3
   obtain ⟨fy0, fy1, fy2⟩ := BY.out.z3
   obtain ⟨r0, r1, r2, r3⟩ := BR.out.q4
   obtain ⟨fr0, fr1, fr2, fr3⟩ := BR.out.z4
   go_wp2
   refine bodyPost_ret (v := .tuple #[schV 0 none 0 0 0 0, .bool false]) (by simp [results, Tryz.results60, go_sem, *]) rfl ⟨rfl, (by repeat (first | exact ext_refl _ | exact hbw.out | exact (hbw).out | refine ext_alloc ?_ _ | refine ext_set ?_ (by simp <;> omega) _))⟩
end Go.Proofs.YtkcbgiegoadkbaaGreat
namespace Go.Proofs.YtkcbgiegoadkbaaGreat
open Go.RowKit
set_option linter.unusedVariables false
set_option linter.unusedSimpArgs false
def flipL (l : List UInt8) : List UInt8 := l.set (l.length - 1) (255 - l.getD (l.length - 1) 0)
theorem flipL_len (l : List UInt8) : (flipL l).length = l.length := by simp [flipL]
theorem flipL_append (a : List UInt8) {b : List UInt8} (h : 0 < b.length) : flipL (a ++ b) = a ++ flipL b := by
 unfold flipL
 have h1 : (a ++ b).length - 1 = a.length + (b.length - 1) := by simp; omega
 have h2 : (a ++ b).getD (a.length + (b.length - 1)) 0 = b.getD (b.length - 1) 0 := by
  simp only [List.getD]
  rw [List.getElem?_append_right (by omega), Nat.add_sub_cancel_left]
 rw [h1, h2, List.set_append_right _ _ (by omega), Nat.add_sub_cancel_left]
def crashOk (d p : ByteArray) (z k : Int) : Bool := logB d p z && decide (0 ≤ k ∧ k ≤ (p.size : Int))
def crashT (d p : ByteArray) (k : Nat) (torn : Bool) : ByteArray := if torn = true ∧ 0 < k then d ++ str (flipL (bl (p.extract 0 k))) else d ++ p.extract 0 k
def crashB (d p : ByteArray) (z k : Int) (torn : Bool) : ByteArray := if crashOk d p z k = true then crashT d p k.toNat torn else ⟨#[]⟩
theorem below_bytes (w : World) (e : TypeId) (s : ByteArray) : Below w.heap.size w (Lib.bytesWorld w e s) :=
 ⟨rfl, rfl, rfl, by rw [Lib.bytesWorld_size]; omega, fun j hj => Lib.bytesWorld_at_old w e s j hj⟩
theorem u8_flip (x : UInt8) : (255 - (x.toNat : Int)) = ((255 - x : UInt8).toNat : Int) := by
 have h := UInt8.toNat_lt x
 have h2 : (255 - x : UInt8).toNat = 255 - x.toNat := by
  rw [UInt8.toNat_sub_of_le]
  · rfl
  · rw [UInt8.le_iff_toNat_le]; show x.toNat ≤ 255; omega
 rw [h2]
 omega
set_option maxRecDepth 100000 in
theorem bytes_back (w : World) {src e dst : TypeId} (hs : Tryz.prog.underlying src = some (.slice e)) (he : Tryz.prog.underlying e = some (.int .u8)) (hd : Tryz.prog.underlying dst = some .string) (H n cap : Nat) (l : List UInt8) (hl : l.length = n)
 (hc : ∀ j, j < n → w.cell? ⟨H, j, none⟩ = some (.int .u8 ((l.getD j 0).toNat : Int))) : (convert src dst (.slice (some ⟨H, 0, none⟩) n cap)).run Tryz.prog w = .ok (.string (str l)) w := by
 have := run_convert_bytes_arg (P := Tryz.prog) w src e hs he H 0 n cap (l.map fun b => (b.toNat : Int)) (by simpa using hl) (fun i hi => by
  rw [Nat.zero_add, hc i hi]
  simp [List.getD, List.getElem?_map]
  rw [List.getElem?_eq_getElem (by omega)]
  simp) dst hd
 rw [this]
 congr 2
 apply bl_inj
 rw [bl_str]
 simp only [strOfNums, bl, List.map_map]
 rw [List.map_congr_left (g := id) (fun x _ => by simp)]
 simp
theorem bytes_cell (w : World) (e : TypeId) (s : ByteArray) (j : Nat) (hj : j < s.size) : (Lib.bytesWorld w e s).cell? ⟨w.heap.size, j, none⟩ = some (.int .u8 (((bl s).getD j 0).toNat : Int)) := Lib.bytesWorld_cell w e s j hj
theorem bytes_frozen (w : World) (e : TypeId) (s : ByteArray) (j : Nat) (hj : j < s.size) : (Lib.bytesWorld w e s).frozen? ⟨w.heap.size, j, none⟩ = false := by
 have h := Lib.bytesWorld_at_new w e s
 have hz : s.size ≤ (Lib.bytesCells w e s).size := by simp [Lib.bytesCells]
 unfold World.frozen?
 simp only [h]
 simp
 omega
/-- the last of the bytes turned: its cells -/
theorem flip_cells {w : World} {H n : Nat} {l : List UInt8} (hl : l.length = n) (hn : 0 < n) (hc : ∀ j, j < n → w.cell? ⟨H, j, none⟩ = some (.int .u8 ((l.getD j 0).toNat : Int))) :
 ∀ j, j < n → (w.setCell ⟨H, n - 1, none⟩ (.int .u8 (255 - ((l.getD (n - 1) 0).toNat : Int)))).cell? ⟨H, j, none⟩ = some (.int .u8 (((flipL l).getD j 0).toNat : Int)) := by
 intro j hj
 rw [u8_flip]
 by_cases e : j = n - 1
 · subst e
   rw [World.cell?_setCell_same _ _ _ (hc _ hj)]
   simp [flipL, hl, List.getD]
   rw [List.getElem?_set_self (by omega)]
   simp
 · rw [World.cell?_setCell_other _ _ _ _ (by intro h; injection h with _ h _; omega), hc j hj]
   simp [flipL, hl, List.getD]
   rw [List.getElem?_set_ne (by omega)]
end Go.Proofs.YtkcbgiegoadkbaaGreat
namespace Go.Proofs.YtkcbgiegoadkbaaGreat
open Go.RowKit
set_option linter.unusedVariables false
set_option linter.unusedSimpArgs false
def conB (day : Int) (l : List R5) (pa le : Int) (d p : ByteArray) (z : Int) : Bool := schB day l pa le && logB d p z

theorem implIsValidConsole_any (day pa le : Int) (d p : ByteArray) (z : Int) (A : Option Addr) (n c : Nat) (l : List R5) (w : World) (hn : n ≤ 1048576) (hd : d.size ≤ 2000000) (hp : p.size ≤ 2000000) (h : Reads w w.heap.size 5 A n (rowsV l)) :
 Calls Tryz.prog 32 #[conV day A n c pa le d p z] w fun e w' => e = .returned (.bool (conB day l pa le d p z)) ∧ Below w.heap.size w w' := by
 have HS := Lib.hid (fun (w : World) h => isSchool_any day pa le A n c l w hn h)
 have HG := Lib.hid (fun w => isValidLog_any d p z w hd hp)
 have H := Lib.hid h
 unfold conB
 clear h
 rcases hs : schB day l pa le with _ | _
 · rw [hs] at HS
   clear hs
   rw [Bool.false_and]
   go_enter Tryz.func32, Tryz.ntmps32
   go_wp2_with fail
   refine (HS.out _ ((H.out.ext (ext_alloc (ext_refl _) _) (Nat.le_refl _)).more (by simp))).mono ?_
   rintro e w1 ⟨rfl, hb1⟩
   have b1 := Lib.hid (ext_trans (ext_alloc (ext_refl w) _) hb1)
   clear hb1
   go_wp2
   go_ret
   exact ⟨rfl, b1.out⟩
 · rw [hs] at HS
   clear hs
   rw [Bool.true_and]
   go_enter Tryz.func32, Tryz.ntmps32
   go_wp2_with fail
   refine (HS.out _ ((H.out.ext (ext_alloc (ext_refl _) _) (Nat.le_refl _)).more (by simp))).mono ?_
   rintro e w1 ⟨rfl, hb1⟩
   obtain ⟨hc1, hf1⟩ := bcell hb1
   have z0 : w.heap.size < w1.heap.size := by (have := hb1.size; simp at this; omega)
   have b1 := Lib.hid (ext_trans (ext_alloc (ext_refl w) _) hb1)
   clear hb1
   go_wp2_with fail
   refine (HG.out _).mono ?_
   rintro e w2 ⟨rfl, hb2⟩
   have b2 := Lib.hid (ext_trans b1.out hb2)
   clear hb2
   go_wp2
   go_ret
   exact ⟨rfl, b2.out⟩

theorem l28Good_any (day pa le : Int) (d p : ByteArray) (z : Int) (A : Option Addr) (n c : Nat) (l : List R5) (w : World) (hn : n ≤ 1048576) (hd : d.size ≤ 2000000) (hp : p.size ≤ 2000000) (h : Reads w w.heap.size 5 A n (rowsV l)) :
 Calls Tryz.prog 41 #[conV day A n c pa le d p z] w fun e w' => e = .returned (.bool (conB day l pa le d p z)) ∧ Below w.heap.size w w' := by
 have HS := Lib.hid (fun (w : World) h => l25Good_any day pa le A n c l w hn h)
 have HG := Lib.hid (fun w => l27Log_small d p z w hd hp)
 have H := Lib.hid h
 unfold conB
 clear h
 rcases hs : schB day l pa le with _ | _
 · rw [hs] at HS
   clear hs
   rw [Bool.false_and]
   go_enter Tryz.func41, Tryz.ntmps41
   go_wp2_with fail
   refine (HS.out _ ((H.out.ext (ext_alloc (ext_refl _) _) (Nat.le_refl _)).more (by simp))).mono ?_
   rintro e w1 ⟨rfl, hb1⟩
   have b1 := Lib.hid (ext_trans (ext_alloc (ext_refl w) _) hb1)
   clear hb1
   go_wp2
   go_ret
   exact ⟨rfl, b1.out⟩
 · rw [hs] at HS
   clear hs
   rw [Bool.true_and]
   go_enter Tryz.func41, Tryz.ntmps41
   go_wp2_with fail
   refine (HS.out _ ((H.out.ext (ext_alloc (ext_refl _) _) (Nat.le_refl _)).more (by simp))).mono ?_
   rintro e w1 ⟨rfl, hb1⟩
   obtain ⟨hc1, hf1⟩ := bcell hb1
   have z0 : w.heap.size < w1.heap.size := by (have := hb1.size; simp at this; omega)
   have b1 := Lib.hid (ext_trans (ext_alloc (ext_refl w) _) hb1)
   clear hb1
   go_wp2_with fail
   refine (HG.out _).mono ?_
   rintro e w2 ⟨rfl, hb2⟩
   have b2 := Lib.hid (ext_trans b1.out hb2)
   clear hb2
   go_wp2
   go_ret
   exact ⟨rfl, b2.out⟩
end Go.Proofs.YtkcbgiegoadkbaaGreat
namespace Go.Proofs.YtkcbgiegoadkbaaGreat
open Go.RowKit
set_option linter.unusedVariables false
set_option linter.unusedSimpArgs false
def lrL (d p : ByteArray) (z : Int) : List CR := if logB d p z = true then recL (d ++ p) else []
theorem lrL_len (d p : ByteArray) (z : Int) : (lrL d p z).length ≤ 60 := by
 unfold lrL; split
 · exact recL_len _
 · simp

set_option maxRecDepth 100000 in
set_option maxHeartbeats 1000000 in
theorem implRecords_any (d p : ByteArray) (z : Int) (w : World) (hd : d.size ≤ 2000000) (hp : p.size ≤ 2000000) :
 Calls Tryz.prog 23 #[logV d p z] w (RetSliceB w 60 2 (lrL d p z).length (recsV (lrL d p z)) (logB d p z)) := by
 have zdp : (d ++ p).size = d.size + p.size := ByteArray.size_append
 have HV := Lib.hid (fun w => isValidLog_any d p z w hd hp)
 have HO := Lib.hid (fun w => recovered_any (d ++ p) w (by omega))
 have e3 := recL_len (d ++ p)
 rcases hb : logB d p z with _ | _
 · rw [show lrL d p z = [] from by simp [lrL, hb]]
   rw [hb] at HV
   clear hb zdp
   go_enter Tryz.func23, Tryz.ntmps23
   go_wp2_with (go_at_call 36; refine (HV.out _).mono ?_; rintro e w' ⟨rfl, hb⟩; obtain ⟨hc, hf⟩ := bcell hb; have hz : w.heap.size < w'.heap.size := by (have := hb.size; (try simp at this); omega))
   go_ret2
   exact ⟨none, 0, rfl, World.ownsRow_nil _ _ _ _, (by repeat (first | exact ext_refl _ | assumption | refine ext_alloc ?_ _ | refine ext_drew ?_ | refine ext_drewN ?_ _ | refine ext_set ?_ (by simp <;> omega) _ | refine ext_trans ?_ (by assumption)))⟩
 · rw [show lrL d p z = recL (d ++ p) from by simp [lrL, hb]]
   rw [hb] at HV
   clear hb zdp
   obtain ⟨L, hL⟩ : ∃ L, recL (d ++ p) = L := ⟨_, rfl⟩
   obtain ⟨E, hE⟩ : ∃ E, recE (d ++ p) = E := ⟨_, rfl⟩
   rw [hL] at HO e3 ⊢
   rw [hE] at HO
   obtain ⟨N, hN⟩ : ∃ N, L.length = N := ⟨_, rfl⟩
   unfold RetOpen at HO
   rw [hN] at HO e3 ⊢
   clear hL hE hN
   go_enter Tryz.func23, Tryz.ntmps23
   go_wp2_with (go_at_call 36; refine (HV.out _).mono ?_; rintro e w' ⟨rfl, hb⟩; obtain ⟨hc, hf⟩ := bcell hb; have hz : w.heap.size < w'.heap.size := by (have := hb.size; (try simp at this); omega))
   refine (HO.out _).mono ?_
   rintro e w1 ⟨A1, c1, rfl, ho, hb1⟩
   go_wp2
   go_ret2
   exact ⟨A1, c1, rfl, own_base ho (by have := hb.size; (try simp at this); omega), (by repeat (first | exact ext_refl _ | assumption | refine ext_alloc ?_ _ | refine ext_drew ?_ | refine ext_drewN ?_ _ | refine ext_set ?_ (by simp <;> omega) _ | refine ext_trans ?_ (by assumption)))⟩

set_option maxRecDepth 100000 in
set_option maxHeartbeats 1000000 in
theorem specRecords_any (d p : ByteArray) (z : Int) (w : World) (hd : d.size ≤ 2000000) (hp : p.size ≤ 2000000) :
 Calls Tryz.prog 25 #[logV d p z] w (RetSliceB w 60 2 (lrL d p z).length (recsV (lrL d p z)) (logB d p z)) := by
 have zdp : (d ++ p).size = d.size + p.size := ByteArray.size_append
 have HV := Lib.hid (fun w => l27Log_small d p z w hd hp)
 have HO := Lib.hid (fun w => l27Open_any (d ++ p) w (by omega))
 have e3 := recL_len (d ++ p)
 rcases hb : logB d p z with _ | _
 · rw [show lrL d p z = [] from by simp [lrL, hb]]
   rw [hb] at HV
   clear hb zdp
   go_enter Tryz.func25, Tryz.ntmps25
   go_wp2_with (go_at_call 24; refine (HV.out _).mono ?_; rintro e w' ⟨rfl, hb⟩; obtain ⟨hc, hf⟩ := bcell hb; have hz : w.heap.size < w'.heap.size := by (have := hb.size; (try simp at this); omega))
   go_ret2
   exact ⟨_, 0, rfl, own_base (own_lit0 _ _ _) (by omega), (by repeat (first | exact ext_refl _ | assumption | refine ext_alloc ?_ _ | refine ext_drew ?_ | refine ext_drewN ?_ _ | refine ext_set ?_ (by simp <;> omega) _ | refine ext_trans ?_ (by assumption)))⟩
 · rw [show lrL d p z = recL (d ++ p) from by simp [lrL, hb]]
   rw [hb] at HV
   clear hb zdp
   obtain ⟨L, hL⟩ : ∃ L, recL (d ++ p) = L := ⟨_, rfl⟩
   obtain ⟨E, hE⟩ : ∃ E, recE (d ++ p) = E := ⟨_, rfl⟩
   rw [hL] at HO e3 ⊢
   rw [hE] at HO
   obtain ⟨N, hN⟩ : ∃ N, L.length = N := ⟨_, rfl⟩
   unfold RetOpen at HO
   rw [hN] at HO e3 ⊢
   clear hL hE hN
   go_enter Tryz.func25, Tryz.ntmps25
   go_wp2_with (go_at_call 24; refine (HV.out _).mono ?_; rintro e w' ⟨rfl, hb⟩; obtain ⟨hc, hf⟩ := bcell hb; have hz : w.heap.size < w'.heap.size := by (have := hb.size; (try simp at this); omega))
   refine (HO.out _).mono ?_
   rintro e w1 ⟨A1, c1, rfl, ho, hb1⟩
   go_wp2
   go_ret2
   exact ⟨A1, c1, rfl, own_base ho (by have := hb.size; (try simp at this); omega), (by repeat (first | exact ext_refl _ | assumption | refine ext_alloc ?_ _ | refine ext_drew ?_ | refine ext_drewN ?_ _ | refine ext_set ?_ (by simp <;> omega) _ | refine ext_trans ?_ (by assumption)))⟩
end Go.Proofs.YtkcbgiegoadkbaaGreat
namespace Go.Proofs.YtkcbgiegoadkbaaGreat
open Go.RowKit
set_option linter.unusedVariables false
set_option linter.unusedSimpArgs false
theorem drop_append' {α : Type} (t u : List α) {a : Nat} (h : a ≤ t.length) : (t ++ u).drop a = t.drop a ++ u := by
 rw [List.drop_append, Nat.sub_eq_zero_of_le h, List.drop_zero]
/-- a line that ends within the first part is the same line whatever stands behind -/
theorem ln_append {t u : ByteArray} {a : Nat} (h : a ≤ t.size) (he : lnEnd t a < t.size) : ln (t ++ u) a = ln t a := by
 apply bl_inj
 have h10 := ln_hit he
 have hm : ∃ x ∈ (bl t).drop a, ¬ ((x != 10) = true) := by
  refine ⟨10, ?_, by decide⟩
  rw [List.mem_iff_getElem?]
  exact ⟨lnEnd t a - a, by rw [List.getElem?_drop, show a + (lnEnd t a - a) = lnEnd t a from by unfold lnEnd; omega, bl_get he, h10]⟩
 rw [ln_bl, ln_bl, bl_append, drop_append' _ _ (by rw [bl_size]; exact h), List.takeWhile_append, if_neg ?_]
 intro e
 obtain ⟨x, hx, hn⟩ := hm
 have h2 : ((bl t).drop a).takeWhile (· != 10) = (bl t).drop a := (List.takeWhile_sublist _).eq_of_length e
 rw [← h2] at hx
 exact hn (List.all_eq_true.1 (List.all_takeWhile) x hx)
theorem lnEnd_append {t u : ByteArray} {a : Nat} (h : a ≤ t.size) (he : lnEnd t a < t.size) : lnEnd (t ++ u) a = lnEnd t a := by
 unfold lnEnd; rw [ln_append h he]
theorem stepB_append {t u : ByteArray} {a k : Nat} (h : a ≤ t.size) (hs : stepB t a k = true) : stepB (t ++ u) a k = true := by
 obtain ⟨h1, h2⟩ := stepB_parts hs
 have h3 := lnEnd_append (u := u) h h1
 have h4 := ln_append (u := u) h h1
 simp [stepB, h3, h4, h2, ByteArray.size_append]
 omega
/-- records that fill a text are the first records of a longer one -/
theorem recF_append {t u : ByteArray} : ∀ (f a k : Nat), a ≤ t.size → (recF t f a k).2 = t.size →
 recF (t ++ u) f a k = ((recF t f a k).1 ++ (recF (t ++ u) (f - (recF t f a k).1.length) t.size (k + (recF t f a k).1.length)).1, (recF (t ++ u) (f - (recF t f a k).1.length) t.size (k + (recF t f a k).1.length)).2) := by
 intro f
 induction f with
 | zero => intro a k h he; simp [recF] at he ⊢; exact he
 | succ f ih =>
   intro a k h he
   by_cases hs : stepB t a k = true
   · have hs2 := stepB_append (u := u) h hs
     obtain ⟨h1, h2⟩ := stepB_parts hs
     rw [recF, if_pos hs] at he
     have h3 := ih (lnEnd t a + 1) (k + 1) (by omega) he
     rw [recF, if_pos hs2, lnEnd_append h h1, ln_append h h1]
     simp only [recF, if_pos hs, List.length_cons]
     rw [h3]
     simp only [List.cons_append, Prod.mk.injEq]
     rw [show f + 1 - ((recF t f (lnEnd t a + 1) (k + 1)).1.length + 1) = f - (recF t f (lnEnd t a + 1) (k + 1)).1.length from by omega, show k + ((recF t f (lnEnd t a + 1) (k + 1)).1.length + 1) = k + 1 + (recF t f (lnEnd t a + 1) (k + 1)).1.length from by omega]
     exact ⟨rfl, rfl⟩
   · have hs' : stepB t a k = false := by simpa using hs
     rw [recF, if_neg hs] at he
     simp only [] at he
     subst he
     simp [recF, hs']
/-- what is read of the first bytes of a text is read of the whole text too -/
theorem recF_prefix {t u : ByteArray} : ∀ (f a k : Nat), a ≤ t.size → ∃ m, (recF (t ++ u) f a k).1 = (recF t f a k).1 ++ m := by
 intro f
 induction f with
 | zero => intro a k h; exact ⟨[], by simp [recF]⟩
 | succ f ih =>
   intro a k h
   by_cases hs : stepB t a k = true
   · have hs2 := stepB_append (u := u) h hs
     obtain ⟨h1, h2⟩ := stepB_parts hs
     obtain ⟨m, hm⟩ := ih (lnEnd t a + 1) (k + 1) (by omega)
     refine ⟨m, ?_⟩
     rw [recF, if_pos hs2, lnEnd_append h h1, ln_append h h1]
     simp only [recF, if_pos hs]
     rw [hm]; rfl
   · exact ⟨(recF (t ++ u) (f + 1) a k).1, by rw [show (recF t (f + 1) a k) = ([], a) from by simp [recF, hs]]; rfl⟩
theorem ba_split (s : ByteArray) {e : Nat} (h : e ≤ s.size) : s = s.extract 0 e ++ s.extract e s.size := by
 apply bl_inj
 rw [bl_append, bl_extract, bl_extract, List.drop_zero, List.take_of_length_le (Nat.le_of_eq (bl_size s)), List.take_append_drop]
/-- the bytes that were read, alone: the same records -/
theorem recF_fix {s : ByteArray} {e : Nat} (he : e ≤ s.size) : ∀ (f a k : Nat), a ≤ e → (recF s f a k).2 = e → recF (s.extract 0 e) f a k = recF s f a k := by
 have hsp := ba_split s he
 obtain ⟨t, ht⟩ : ∃ t, t = s.extract 0 e := ⟨_, rfl⟩
 obtain ⟨u, hu⟩ : ∃ u, u = s.extract e s.size := ⟨_, rfl⟩
 have hz : t.size = e := by rw [ht, extract_size _ _ _ he]; omega
 rw [← ht]
 rw [← ht, ← hu] at hsp
 intro f
 induction f with
 | zero => intro a k ha h; simp [recF]
 | succ f ih =>
   intro a k ha h
   by_cases hs : stepB s a k = true
   · obtain ⟨h1, h2⟩ := stepB_parts hs
     have h3 : lnEnd s a + 1 ≤ e := by
      rw [recF, if_pos hs] at h
      have := (recF_end s f (lnEnd s a + 1) (k + 1) (by omega)).1
      simp only [] at h
      omega
     have h4 : lnEnd t a < t.size := by
      by_cases hc : lnEnd t a < t.size
      · exact hc
      · exfalso
        have h5 := lnEnd_le (s := t) (a := a) (by omega)
        have h6 : lnEnd t a = t.size := by omega
        have hj : lnEnd s a < t.size := by omega
        have h7 := ln_miss (s := t) (a := a) (j := lnEnd s a) (by unfold lnEnd; omega) (by omega) hj
        have h8 := bl_get h1
        rw [ln_hit h1, hsp, bl_append, ← hsp, List.getElem?_append_left (by rw [bl_size]; exact hj), bl_get hj] at h8
        exact h7 (by simpa using h8)
     have h9 := ln_append (u := u) (t := t) (a := a) (by omega) h4
     have h10 := lnEnd_append (u := u) (t := t) (a := a) (by omega) h4
     rw [← hsp] at h9 h10
     have hs2 : stepB t a k = true := by simp [stepB, ← h9, h2]; omega
     rw [recF, if_pos hs] at h
     rw [recF, if_pos hs2, recF, if_pos hs, ← h9, ← h10]
     rw [ih _ _ h3 h]
   · have hs' : stepB s a k = false := by simpa using hs
     have h0 : a = e := by rw [recF, if_neg hs] at h; exact h
     subst h0
     have h1 : stepB t a k = false := by
      have := lnEnd_le (s := t) (a := a) (by omega)
      have h3 : a ≤ lnEnd t a := by unfold lnEnd; omega
      rw [stepB, decide_eq_false (by omega)]; rfl
     simp [recF, hs', h1]
theorem rec_fix (s : ByteArray) : recL (s.extract 0 (recE s)) = recL s ∧ recE (s.extract 0 (recE s)) = recE s := by
 have := recF_fix (recE_le s) 60 0 0 (Nat.zero_le _) rfl
 unfold recL recE at *
 rw [this]; exact ⟨rfl, rfl⟩
/-- a byte more that is no newline: nothing more is read -/
theorem recF_torn {t u : ByteArray} {x : UInt8} (hx : x ≠ 10) (hu : bl u = [x]) : ∀ (f a k : Nat), a ≤ t.size → recF (t ++ u) f a k = recF t f a k := by
 intro f
 induction f with
 | zero => intro a k h; simp [recF]
 | succ f ih =>
   intro a k h
   by_cases hs : stepB t a k = true
   · obtain ⟨h1, h2⟩ := stepB_parts hs
     rw [recF, if_pos (stepB_append h hs), recF, if_pos hs, lnEnd_append h h1, ln_append h h1, ih _ _ (by omega)]
   · have hs' : stepB t a k = false := by simpa using hs
     have h1 : stepB (t ++ u) a k = false := by
      rw [Bool.eq_false_iff]
      intro h2
      obtain ⟨h3, h4⟩ := stepB_parts h2
      have hz : (t ++ u : ByteArray).size = t.size + 1 := by rw [ByteArray.size_append, ← bl_size u, hu]; rfl
      have h5 := ln_hit h3
      have h6 := bl_get h3
      rw [h5, bl_append] at h6
      have h7 : lnEnd (t ++ u) a < t.size := by
       by_cases hc : lnEnd (t ++ u) a < t.size
       · exact hc
       · exfalso
         rw [List.getElem?_append_right (by rw [bl_size]; omega), bl_size, show lnEnd (t ++ u) a - t.size = 0 from by omega] at h6
         rw [hu] at h6
         simp at h6
         exact hx h6
      have h8 : lnEnd t a < t.size := by
       by_cases hc : lnEnd t a < t.size
       · exact hc
       · exfalso
         have h9 := ln_miss (s := t) (a := a) (j := lnEnd (t ++ u) a) (by unfold lnEnd; omega) (by omega) h7
         rw [List.getElem?_append_left (by rw [bl_size]; exact h7), bl_get h7] at h6
         exact h9 (by simpa using h6)
      have : stepB t a k = true := by
       rw [ln_append h h8] at h4
       simp [stepB, h4, h8]
      rw [this] at hs'; cases hs'
     simp [recF, hs', h1]
end Go.Proofs.YtkcbgiegoadkbaaGreat
namespace Go.Proofs.YtkcbgiegoadkbaaGreat
open Go.RowKit
set_option linter.unusedVariables false
set_option linter.unusedSimpArgs false
theorem tw_app {p : UInt8 → Bool} {a b : List UInt8} (ha : ∀ x ∈ a, p x = true) (hb : ∀ x, b[0]? = some x → p x = false) : (a ++ b).takeWhile p = a := by
 induction a with
 | nil =>
   cases b with
   | nil => rfl
   | cons y b => simp [List.takeWhile_cons, hb y rfl]
 | cons x a ih =>
   simp [List.takeWhile_cons, ha x (by simp), ih (fun y hy => ha y (by simp [hy]))]
theorem not_stands {s : ByteArray} {c : UInt8} (h : standsB s c = false) : ∀ x ∈ bl s, (x != c) = true := by
 intro x hx
 simp only [standsB, decide_eq_false_iff_not] at h
 simp
 intro e
 exact h (e ▸ hx)
def lineL (k : Nat) (c r : ByteArray) : ByteArray := sealB (bodyB (k : Int) c r)
theorem lineB_eq (k : Nat) (c r : ByteArray) : lineB (k : Int) c r = lineL k c r ++ ⟨#[10]⟩ := rfl
theorem body_head (k : Nat) (c r : ByteArray) : bodyB (k : Int) c r = dHead k ++ (c ++ ⟨#[64]⟩ ++ r) := by
 simp only [bodyB, dHead, decI_nat, ByteArray.append_assoc]
theorem line_text {k : Nat} {c r : ByteArray} (h : recB c r = true) : dText (lineL k c r) = bodyB (k : Int) c r := by
 have h1 : standsB (bodyB (k : Int) c r) 35 = false := by
  have := body_ok (n := k) h
  simp only [sealOk, Bool.and_eq_true, Bool.not_eq_true'] at this
  exact this.1.2
 apply bl_inj
 rw [dText, cutB, bl_str, lineL, sealB, ByteArray.append_assoc, bl_append]
 exact tw_app (not_stands h1) (fun x hx => by
  rw [bl_append] at hx
  simp [bl] at hx
  simp [← hx])
theorem ba_take_app (a b : ByteArray) : (a ++ b).extract 0 a.size = a := by
 apply bl_inj
 rw [bl_extract, bl_append, List.drop_zero, ← bl_size, List.take_left']
 rfl
theorem ba_drop_app (a b : ByteArray) : (a ++ b).extract a.size (a ++ b).size = b := by
 apply bl_inj
 rw [bl_extract, ← bl_size (a ++ b), List.take_length, bl_append, ← bl_size, List.drop_left']
 rfl
theorem line_rest {k : Nat} {c r : ByteArray} (h : recB c r = true) : dRest k (lineL k c r) = c ++ ⟨#[64]⟩ ++ r := by
 rw [dRest, line_text h, body_head, ba_drop_app]
theorem line_cmd {k : Nat} {c r : ByteArray} (h : recB c r = true) : dCmd k (lineL k c r) = c := by
 have h1 := (rec_parts h).2.2.2.2.2
 apply bl_inj
 rw [dCmd, line_rest h, cutB, bl_str, ByteArray.append_assoc, bl_append]
 exact tw_app (not_stands h1) (fun x hx => by
  rw [bl_append] at hx
  simp [bl] at hx
  simp [← hx])
theorem line_rep {k : Nat} {c r : ByteArray} (h : recB c r = true) : dRep k (lineL k c r) = r := by
 have e : (c.size + 1) = (c ++ ⟨#[64]⟩ : ByteArray).size := by rw [ByteArray.size_append]; rfl
 rw [dRep, line_cmd h, line_rest h, e, ba_drop_app]
theorem line_at {k : Nat} {c r : ByteArray} (h : recB c r = true) : dAt k (lineL k c r) = true := by
 have h1 : dPre k (lineL k c r) = true := by
  rw [dPre, line_text h, body_head, ba_take_app]
  simp [ByteArray.size_append]
 have h2 : (c ++ ⟨#[64]⟩ ++ r : ByteArray).size = c.size + 1 + r.size := by rw [ByteArray.size_append, ByteArray.size_append]; rfl
 rw [dAt, h1, line_cmd h, line_rest h, h2]
 simp
 omega
theorem line_ok {k : Nat} {c r : ByteArray} (h : recB c r = true) : dOk k (lineL k c r) = true ∧ dC k (lineL k c r) = c ∧ dR k (lineL k c r) = r := by
 have h1 := line_at (k := k) h
 refine ⟨?_, by rw [dC, h1, if_pos rfl, line_cmd h], by rw [dR, h1, if_pos rfl, line_rep h]⟩
 rw [dOk, h1, line_cmd h, line_rep h, h, lineB_eq]
 simp
theorem line_no10 {k : Nat} {c r : ByteArray} (h : recB c r = true) : standsB (lineL k c r) 10 = false := by
 obtain ⟨_, _, _, hc, hr, _⟩ := rec_parts h
 rw [lineL, sealB, bodyB, decI_nat]
 simp only [stands_append]
 rw [stands_dec (by decide), stands_dec (by decide), stands_printed hc (by decide), stands_printed hr (by decide)]
 rw [stands_lit [32] 10, stands_lit [64] 10, stands_lit [35] 10]
 decide
theorem app_ln {s : ByteArray} {k : Nat} {c r : ByteArray} (h : recB c r = true) : ln (s ++ lineB (k : Int) c r) s.size = lineL k c r := by
 apply bl_inj
 rw [ln_bl, bl_append, ← bl_size s, List.drop_left' rfl, lineB_eq, bl_append]
 exact tw_app (not_stands (line_no10 h)) (fun x hx => by
  simp [bl] at hx
  simp [← hx])
theorem lineB_len (k : Nat) (c r : ByteArray) : (lineB (k : Int) c r).size = (lineL k c r).size + 1 := by rw [lineB_eq, ByteArray.size_append]; rfl
theorem app_end {s : ByteArray} {k : Nat} {c r : ByteArray} (h : recB c r = true) : lnEnd (s ++ lineB (k : Int) c r) s.size = s.size + (lineL k c r).size := by rw [lnEnd, app_ln h]
theorem app_step {s : ByteArray} {k : Nat} {c r : ByteArray} (h : recB c r = true) : stepB (s ++ lineB (k : Int) c r) s.size k = true := by
 have h1 := lineB_len k c r
 rw [stepB, app_end h, app_ln h, (line_ok h).1, ByteArray.size_append, h1]
 simp
theorem end_step (s : ByteArray) (k : Nat) : stepB s s.size k = false := by
 have h1 : s.size ≤ lnEnd s s.size := by unfold lnEnd; omega
 rw [stepB, decide_eq_false (by omega)]; rfl
/-- a record more behind the records that fill a text -/
theorem app_rec {s : ByteArray} {f k : Nat} {c r : ByteArray} (h : recB c r = true) : recF (s ++ lineB (k : Int) c r) (f + 1) s.size k = ([(c, r)], (s ++ lineB (k : Int) c r).size) := by
 have h1 : lnEnd (s ++ lineB (k : Int) c r) s.size + 1 = (s ++ lineB (k : Int) c r).size := by rw [app_end h, ByteArray.size_append, lineB_len]; omega
 obtain ⟨_, h2, h3⟩ := line_ok (k := k) h
 rw [recF_yes (app_step h), h1, app_ln h, h2, h3, recF_no (end_step _ _)]
theorem append_rec {s : ByteArray} {k : Nat} {c r : ByteArray} (he : recE s = s.size) (hk : (recL s).length = k) (hk2 : k < 60) (h : recB c r = true) :
 recL (s ++ lineB (k : Int) c r) = recL s ++ [(c, r)] ∧ recE (s ++ lineB (k : Int) c r) = (s ++ lineB (k : Int) c r).size := by
 have h1 := recF_append (t := s) (u := lineB (k : Int) c r) 60 0 0 (Nat.zero_le _) he
 unfold recL at hk
 rw [hk, Nat.zero_add] at h1
 obtain ⟨f, hf⟩ : ∃ f, 60 - k = f + 1 := ⟨59 - k, by omega⟩
 rw [hf, app_rec h] at h1
 unfold recL recE
 rw [h1]
 exact ⟨rfl, rfl⟩
theorem first_rec {c r : ByteArray} (h : recB c r = true) : recL (lineB ((0 : Nat) : Int) c r) = [(c, r)] ∧ recE (lineB ((0 : Nat) : Int) c r) = (lineB ((0 : Nat) : Int) c r).size := by
 have h1 := app_rec (s := ⟨#[]⟩) (f := 59) (k := 0) h
 have e : (⟨#[]⟩ : ByteArray) ++ lineB ((0 : Nat) : Int) c r = lineB ((0 : Nat) : Int) c r := by apply bl_inj; rw [bl_append]; rfl
 rw [e] at h1
 unfold recL recE
 rw [show (⟨#[]⟩ : ByteArray).size = 0 from rfl] at h1
 rw [h1]
 exact ⟨rfl, rfl⟩
theorem head_not0 : ∀ k : Fin 60, 1 ≤ k.val → (bl (dec k.val))[0]? ≠ some 48 := by decide +kernel
theorem other_rec {k : Nat} {c r : ByteArray} (h : recB c r = true) (h1 : 1 ≤ k) (h2 : k ≤ 59) : recL (lineB (k : Int) c r) = [] ∧ recE (lineB (k : Int) c r) = 0 := by
 have hn : stepB (lineB (k : Int) c r) 0 0 = false := by
  rw [Bool.eq_false_iff]
  intro hs
  obtain ⟨_, h3⟩ := stepB_parts hs
  have e : ln (lineB (k : Int) c r) 0 = lineL k c r := by
   have := app_ln (s := ⟨#[]⟩) (k := k) h
   have e : (⟨#[]⟩ : ByteArray) ++ lineB (k : Int) c r = lineB (k : Int) c r := by apply bl_inj; rw [bl_append]; rfl
   rw [e] at this
   exact this
  rw [e] at h3
  have h4 := (dOk_parts h3).1
  simp only [dAt, dPre, Bool.and_eq_true, decide_eq_true_eq] at h4
  have h5 := h4.1.2
  rw [line_text h] at h5
  have h6 := congrArg (fun s => (bl s)[0]?) h5
  have hz : (dHead 0).size = 2 := by decide +kernel
  rw [hz] at h6
  simp only [bl_extract, List.drop_zero] at h6
  rw [List.getElem?_take, if_pos (by omega), body_head, dHead, bl_append, bl_append, List.append_assoc] at h6
  have h7 : 0 < (bl (dec k)).length := by
   have := head_size k
   have h8 : ∀ j : Fin 60, 0 < (bl (dec j.val)).length := by decide +kernel
   exact h8 ⟨k, by omega⟩
  rw [List.getElem?_append_left h7] at h6
  exact head_not0 ⟨k, by omega⟩ h1 (h6.trans (by decide +kernel))
 unfold recL recE
 rw [recF_no hn]
 exact ⟨rfl, rfl⟩
end Go.Proofs.YtkcbgiegoadkbaaGreat
namespace Go.Proofs.YtkcbgiegoadkbaaGreat
open Go.RowKit
set_option linter.unusedVariables false
set_option linter.unusedSimpArgs false
theorem lst_lt {listed : Array Bool} {n j : Nat} (hs : listed.size = n) (h : lst listed j) : j < n := by
 rcases Nat.lt_or_ge j listed.size with h1 | h1
 · omega
 · unfold lst at h
   simp [Array.getD, Nat.not_lt.2 h1] at h
/-- dp only says what waits for what -/
def dpok (ops : Array Oper) (dp : Nat → Nat → Bool) : Bool := (List.range ops.size).all fun j => (List.range ops.size).all fun i => !dp j i || (match ops[j]? with | none => true | some oj => oj.after.any fun e => Region.binds .any e && e.on == i)
theorem wp_region_m {P : Program} {id : Nat} {ops : Array Oper} {Q : Exit → Act → World → Prop} {a : Act} {w : World} (hm : P.follows .mixedOrders = true) (hlat : laterB ops = true) (D : List Nat) (uses : Nat → List Nat) (hu : uok ops D uses = true) (hnd : D.Nodup) (mx : Nat) (hD : (D.all fun d => decide (d < mx)) = true) (hmx : mx ≤ a.tmps.size) (E : Act → Prop) (hE : E a) (dp : Nat → Nat → Bool) (hdp : dpok ops dp = true)
 (I : Nat → (Nat → Prop) → World → Prop) (R : Nat → World → World → Prop) (G : Nat → (Nat → Value) → World → Prop) (hI0 : I 0 (fun _ => False) w.drew)
 (hR : ∀ i j vs us w w', i ≠ j → dp j i = false → G j vs w → (∀ d ∈ uses j, us d = vs d) → R i w w' → G j us w')
 (hstep : ∀ a0, E a0 → ∀ i o, ops[i]? = some o → ∀ (Qx : Exit → Act → World → Prop) vs wx b K k L, I k L wx → k < ops.size → ¬ L i → (∀ j, L j → j < ops.size) → (∀ j oj jj, ops[j]? = some oj → L j → (oj.after.any fun e => Region.binds .any e && e.on == jj) = true → L jj) → (∀ j, (o.after.any fun e => Region.binds .any e && e.on == j) = true → L j ∧ G j vs wx) →
  (∀ t, t ∉ D → b.tmps[t]?.getD undef = a0.eval (.tmp t)) → (∀ d ∈ D, b.tmps[d]?.getD undef = vs d) →
  (∀ v w', I (k + 1) (fun j => j = i ∨ L j) w' → R i wx w' → G i (match o.dst with | some d => upd vs d v | none => vs) w' → K (b.put o.dst v) w') →
  if Region.wanted o (yielded ops b.tmps) = true then Oper.wp P o b wx K Qx else K (b.put o.dst undef) wx)
 (hend : ∀ vs wx k L, I k L wx → k ≤ ops.size → (∀ j, L j → j < ops.size) → (∀ j, j < ops.size → L j ∧ G j vs wx) → Q .normal (sl a vs D) wx) : (Code.region id ops true).wp P Q a w := by
 have hsz : ∀ d ∈ D, d < a.tmps.size := fun d hd => Nat.lt_of_lt_of_le (by simpa using List.all_eq_true.1 hD d hd) hmx
 refine wp_region_any hm ?_
 refine wpAny_inv (I := fun listed a' w' => listed.size = ops.size ∧ closed ops listed ∧ ∃ vs, a' = sl a vs D ∧ I (ops.size - unl listed) (lst listed) w' ∧ ∀ j, lst listed j → G j vs w') ?_ ?_ _ _ _ _ ⟨by simp, ?_, _, (sl_self a D hsz).symm, ?_, ?_⟩ ?_
 · rintro listed _ w' i ⟨hls, hcl, vs, rfl, hI, hG⟩ hi
   obtain ⟨h1, o, ho, h2⟩ := mem_ready.1 hi
   obtain ⟨h3, h4⟩ := lst_no h1
   have hn := unl_set h1
   have hle : unl listed ≤ ops.size := by rw [← hls]; unfold unl; have := List.count_le_length (a := false) (l := listed.toList); simpa using this
   refine wpOp_of ho fun K hK => ?_
   have hup : 0 < unl listed := by omega
   refine hstep a hE i o ho Q vs w' (sl a vs D) K _ (lst listed) hI (by omega) h3 (fun j hj => ?lt) (fun j oj jj hoj hj hd => ?cl) (fun j hj => ?dep) (fun t ht => (Array.getD_eq_getD_getElem? ..).symm.trans (sl_out a vs D ht)) (fun d hd => (Array.getD_eq_getD_getElem? ..).symm.trans (sl_at a vs D hnd hd (hsz d hd))) ?_
   case dep =>
    obtain ⟨k, hk, hb⟩ := Array.any_eq_true.1 hj
    simp only [Bool.and_eq_true, beq_iff_eq] at hb
    rw [← hb.2]
    have hl := h2 _ (Array.getElem_mem hk) hb.1
    exact ⟨hl, hG _ hl⟩
   case lt => exact lst_lt hls hj
   case cl =>
    obtain ⟨k, hk, hb⟩ := Array.any_eq_true.1 hd
    simp only [Bool.and_eq_true, beq_iff_eq] at hb
    rw [← hb.2]
    exact hcl j oj hoj hj _ (Array.getElem_mem hk) hb.1
   intro v w'' hI' hR' hG'
   have key : ∀ us, (∀ d, (o.dst ≠ some d) → us d = vs d) → G i us w'' → ∀ j, lst (listed.setIfInBounds i true) j → G j us w'' := by
    intro us hus hgi j hj
    by_cases e : j = i
    · subst e; exact hgi
    · have hj' := (lst_set.1 hj).resolve_left (fun h => e h.1)
      have hag : ∀ d ∈ uses j, us d = vs d := by
       intro d hd
       refine hus d fun hdst => ?_
       obtain ⟨_, hall⟩ := uok_dst hu ho hdst
       have hjs : j < ops.size := by
        rcases Nat.lt_or_ge j listed.size with h | h
        · omega
        · unfold lst at hj'
          simp [Array.getD, Nat.not_lt.2 h] at hj'
       obtain ⟨e2, he2, hb2, hon⟩ := hall j ops[j] (by simp [hjs]) (Ne.symm e) hd
       have := hcl j ops[j] (by simp [hjs]) hj' e2 he2 hb2
       rw [hon] at this
       exact h3 this
      refine hR i j vs us _ _ (Ne.symm e) ?_ (hG j hj') hag hR'
      cases hdj : dp j i with
      | false => rfl
      | true =>
        exfalso
        have hjs : j < ops.size := by
         rcases Nat.lt_or_ge j listed.size with h | h
         · omega
         · unfold lst at hj'
           simp [Array.getD, Nat.not_lt.2 h] at hj'
        have h5 := List.all_eq_true.1 (List.all_eq_true.1 hdp j (List.mem_range.2 hjs)) i (List.mem_range.2 (by omega))
        rw [hdj] at h5
        simp only [Array.getElem?_eq_getElem hjs, Bool.not_true, Bool.false_or] at h5
        obtain ⟨k, hk, hb⟩ := Array.any_eq_true.1 h5
        simp only [Bool.and_eq_true, beq_iff_eq] at hb
        have h6 := hcl j ops[j] (by simp [hjs]) hj' _ (Array.getElem_mem hk) hb.1
        rw [hb.2] at h6
        exact h3 h6
   have hclosed : closed ops (listed.setIfInBounds i true) := by
    intro j oj hoj hj e he hb
    rw [lst_set] at hj ⊢
    rcases hj with ⟨rfl, _⟩ | hj
    · rw [ho] at hoj
      injection hoj with hoj
      subst hoj
      exact .inr (h2 e he hb)
    · exact .inr (hcl j oj hoj hj e he hb)
   have hcnt : ops.size - unl (listed.setIfInBounds i true) = ops.size - unl listed + 1 := by omega
   have hset : lst (listed.setIfInBounds i true) = fun j => j = i ∨ lst listed j := by
    funext j
    exact propext ⟨fun h => (lst_set.1 h).imp And.left (fun x => x), fun h => lst_set.2 (h.imp (fun e => ⟨e, h4⟩) (fun x => x))⟩
   rcases hd : o.dst with _ | d
   · rw [hd] at hG'
     refine hK _ _ ⟨by simpa using hls, hclosed, vs, ?_, by rw [hcnt, hset]; exact hI', key vs (fun _ _ => rfl) hG'⟩
     rfl
   · rw [hd] at hG'
     refine hK _ _ ⟨by simpa using hls, hclosed, upd vs d v, sl_put a vs v D hnd (uok_dst hu ho hd).1, by rw [hcnt, hset]; exact hI', key _ (fun x hx => upd_ne _ _ (fun e => hx (by rw [hd, e]))) hG'⟩
 · rintro listed _ w' ⟨hls, _, vs, rfl, hI, hG⟩ hr
   have hall := fun j hj => all_listedB hlat hls hr j hj
   exact hend vs w' _ _ hI (Nat.sub_le _ _) (fun j hj => lst_lt hls hj) fun j hj => ⟨hall j hj, hG j (hall j hj)⟩
 · intro j o _ hj
   exact absurd hj lst_rep
 · rw [unl_rep, Nat.sub_self, show lst (Array.replicate ops.size false) = (fun _ => False) from funext fun j => propext ⟨fun h => lst_rep h, False.elim⟩]; exact hI0
 · intro j hj
   exact absurd hj lst_rep
 · simp [unl]
/-- a cursor on block g, at a or a little on; before p1 is listed only it is written, before p2 is listed B holds -/
def ICur (C g a : Nat) (w W0 : World) (p1 p2 : Nat) (B : World → Prop) (k : Nat) (L : Nat → Prop) (wx : World) : Prop :=
 ∃ a', a' ≤ a + C * k ∧ CurAt wx g a' ∧ Gr g w wx ∧ W0.heap.size ≤ wx.heap.size ∧ (¬ L p1 → Gr g W0 wx) ∧ (¬ L p2 → B wx)
/-- the same without a cursor: all only grows -/
def IExt (w W0 : World) (p1 p2 : Nat) (B : World → Prop) (k : Nat) (L : Nat → Prop) (wx : World) : Prop :=
 Below w.heap.size w wx ∧ W0.heap.size ≤ wx.heap.size ∧ (¬ L p1 → Below W0.heap.size W0 wx) ∧ (¬ L p2 → B wx)
theorem Gr.refl (g : Nat) (w : World) : Gr g w w := Gr.of_ext (ext_refl w)
theorem Gr.alloc (g : Nat) (w : World) (o : Obj) : Gr g w (w.alloc o) := Gr.of_ext (ext_alloc (ext_refl w) o)
/-- the literal row of one struct of two cells -/
theorem own_blk2 {w : World} {B x e : Nat} {a b : Value} (h : Blk w x e #[a, b]) (hB : B ≤ x) : w.ownsRow B e 2 (.slice (some ⟨x, 0, none⟩) 1 1) 1 [a, b] :=
 ⟨by simp, .inr ⟨x, 1, #[a, b], rfl, hB, h, Nat.le_refl _, by unfold maxLen; omega, by simp, by simp⟩⟩
theorem allAt_blk {w : World} {g x e n : Nat} {cs : Array Value} {l : List Int} {lo hi : Int} (h : Blk w x e cs) (hcs : cs = (l.map (Value.int .i64)).toArray) (hn : n = l.length) (hne : x ≠ g) (hl : ∀ z ∈ l, lo ≤ z ∧ z ≤ hi) : AllAt w g (some ⟨x, 0, none⟩) n (IntIn lo hi) := by
 subst hcs hn
 refine ⟨x, 0, rfl, hne, fun i hi => ⟨.int .i64 l[i], ?_, l[i], rfl, hl _ (List.getElem_mem hi)⟩⟩
 have := h.cell i
 simp [hi] at this ⊢
 exact this
theorem own_blkF {w : World} {B e size g n c : Nat} {xs : List Value} (ho : w.ownsRow B e size (.slice (some ⟨g, 0, none⟩) n c) n xs) : ∃ cs, Blk w g e cs := by
 rcases ho.2 with ⟨h0, _⟩ | ⟨g', cap, cur, hv, _, hh, _⟩
 · cases h0
 · injection hv with hv
   injection hv with hv
   injection hv with hv
   subst hv
   exact ⟨cur, hh⟩
def lenAt (w : World) (N k : Nat) : Nat := match w.cell? ⟨N, k, none⟩ with
 | some (.slice _ n _) => n
 | _ => 0
theorem lenAt_of {w : World} {N k n c : Nat} {A : Option Addr} (h : w.cell? ⟨N, k, none⟩ = some (.slice A n c)) : lenAt w N k = n := by unfold lenAt; rw [h]
end Go.Proofs.YtkcbgiegoadkbaaGreat
namespace Go.Proofs.YtkcbgiegoadkbaaGreat
open Go.RowKit
set_option linter.unusedVariables false
set_option linter.unusedSimpArgs false
theorem recsV_get {l : List CR} {k : Nat} {r : CR} (h : l[k]? = some r) : (recsV l)[k * 2]? = some (.string r.1) ∧ (recsV l)[k * 2 + 1]? = some (.string r.2) :=
 ⟨flat_get recCells 2 (fun _ => rfl) l k 0 r h (by omega), flat_get recCells 2 (fun _ => rfl) l k 1 r h (by omega)⟩
theorem recs_len {w : World} {B n : Nat} {A : Option Addr} {l : List CR} (h : Reads w B 2 A n (recsV l)) : l.length = n := by
 have := h.1; rw [recsV_len] at this; omega
theorem recs_at {w : World} {B n : Nat} {A : Option Addr} {l : List CR} (h : Reads w B 2 A n (recsV l)) {k : Nat} {r : CR} (hr : l[k]? = some r) :
 ∃ b o, A = some ⟨b, o, none⟩ ∧ b < B ∧ w.cell? ⟨b, o + k * 2, none⟩ = some (.string r.1) ∧ w.cell? ⟨b, o + k * 2 + 1, none⟩ = some (.string r.2) := by
 have hk : k < l.length := (List.getElem?_eq_some_iff.1 hr).1
 have hn := recs_len h
 obtain ⟨b, o, hA, hb, hc⟩ := h.2 (by omega)
 obtain ⟨h0, h1⟩ := recsV_get hr
 exact ⟨b, o, hA, hb, hc _ _ h0, hc _ _ h1⟩
/-- what marking leaves in the cells -/
def mks (k0 n : Nat) : List Value := (List.range n).map fun (i : Nat) => Value.string (mkT (k0 + i))
theorem mks_len (k0 n : Nat) : (mks k0 n).length = n := by simp [mks]
theorem mks_get {k0 n j : Nat} (h : j < n) : (mks k0 n)[j]? = some (.string (mkT (k0 + j))) := by simp [mks, h]
theorem mks_set {k0 k q : Nat} {xs : List Value} (h : k < xs.length) (hq : q = k0 + k) : (mks k0 k ++ xs.drop k).set k (.string (mkT q)) = mks k0 (k + 1) ++ xs.drop (k + 1) := by
 rw [List.set_append_right _ _ (by rw [mks_len]; exact Nat.le_refl _), mks_len, Nat.sub_self, List.drop_eq_getElem_cons h, List.set_cons_zero, hq]
 simp [mks, List.range_succ]
theorem grown_ext {w w1 w2 : World} {row : Option Nat} (h : w.grownBy w1 row) (hb : Below w1.heap.size w1 w2) : w.grownBy w2 row :=
 ⟨hb.os.trans h.os, hb.tape.trans h.tape, hb.output.trans h.output, Nat.le_trans h.size hb.size, fun i hi hne => (hb.block i (Nat.lt_of_lt_of_le hi h.size)).trans (h.block i hi hne)⟩
end Go.Proofs.YtkcbgiegoadkbaaGreat
namespace Go.Proofs.YtkcbgiegoadkbaaGreat
open Go.RowKit
set_option linter.unusedVariables false
set_option linter.unusedSimpArgs false
theorem line_high {k : Nat} {c r : ByteArray} (h : recB c r = true) {x : UInt8} (hx : 126 < x.toNat) : standsB (lineB (k : Int) c r) x = false := by
 obtain ⟨_, _, _, hc, hr, _⟩ := rec_parts h
 have hb : okByte x = false := by simp [okByte]; omega
 have hl : ∀ y : UInt8, y.toNat ≤ 126 → standsB ⟨[y].toArray⟩ x = false := fun y hy => by
  rw [stands_lit]
  simp
  intro e
  rw [e] at hx
  omega
 rw [lineB_eq, lineL, sealB, bodyB, decI_nat]
 simp only [stands_append]
 rw [stands_dec (.inr (by omega)), stands_dec (.inr (by omega)), stands_printed hc hb, stands_printed hr hb]
 rw [hl 32 (by decide), hl 64 (by decide), hl 35 (by decide), hl 10 (by decide)]
 rfl
/-- what was read has low bytes alone -/
theorem recF_low {s : ByteArray} : ∀ (f a k : Nat), a ≤ s.size → ∀ i x, a ≤ i → i < (recF s f a k).2 → (bl s)[i]? = some x → x.toNat ≤ 126 := by
 intro f
 induction f with
 | zero => intro a k h i x h1 h2; simp [recF] at h2; omega
 | succ f ih =>
   intro a k h i x h1 h2 hx
   by_cases hs : stepB s a k = true
   · obtain ⟨h3, h4⟩ := stepB_parts hs
     rw [recF_yes hs] at h2
     simp only [] at h2
     by_cases hi : lnEnd s a + 1 ≤ i
     · exact ih _ _ (by omega) i x hi h2 hx
     · obtain ⟨_, h5, h6⟩ := dOk_parts h4
       rcases Nat.lt_or_ge 126 x.toNat with hh | hh
       · exfalso
         have h7 := line_high (k := k) h5 hh
         rw [h6] at h7
         simp only [standsB, decide_eq_false_iff_not] at h7
         apply h7
         rw [bl_append, List.mem_append]
         by_cases he : i = lnEnd s a
         · right
           subst he
           rw [bl_get h3, ln_hit h3] at hx
           simp [bl]
           simpa using hx.symm
         · left
           have h8 : lnEnd s a = a + (ln s a).size := rfl
           rw [← ln_extract, bl_extract]
           rw [List.mem_iff_getElem?]
           exact ⟨i - a, by rw [List.getElem?_drop, List.getElem?_take, if_pos (by omega), show a + (i - a) = i from by omega]; exact hx⟩
       · exact hh
   · rw [recF_no (by simpa using hs)] at h2
     simp only [] at h2
     omega
theorem cut_split (p : ByteArray) {K : Nat} (h : K ≤ p.size) : p = p.extract 0 K ++ p.extract K p.size := ba_split p h
theorem crash_plain {d p : ByteArray} {z : Int} (hl : logB d p z = true) {K : Nat} (hK : K ≤ p.size) : (∃ m, recL (d ++ p) = recL (d ++ p.extract 0 K) ++ m) ∧ d.size ≤ recE (d ++ p.extract 0 K) := by
 obtain ⟨h1, h2, h3⟩ := logB_parts hl
 constructor
 · obtain ⟨m, hm⟩ := recF_prefix (t := d ++ p.extract 0 K) (u := p.extract K p.size) 60 0 0 (Nat.zero_le _)
   rw [ByteArray.append_assoc, ← cut_split p hK] at hm
   exact ⟨m, hm⟩
 · have h4 := recF_append (t := d) (u := p.extract 0 K) 60 0 0 (Nat.zero_le _) h2
   unfold recE
   rw [h4]
   exact (recF_end _ _ _ _ (by rw [ByteArray.size_append]; omega)).1
theorem crash_facts {d p : ByteArray} {z : Int} (hl : logB d p z = true) {K : Nat} (hK : K ≤ p.size) (torn : Bool) :
 (∃ m, recL (d ++ p) = recL (crashT d p K torn) ++ m) ∧ d.size ≤ recE (crashT d p K torn) ∧ (crashT d p K torn).size ≤ 24300 := by
 have hsz := logB_size hl
 have hz : (crashT d p K torn).size = d.size + K := by
  unfold crashT
  split
  · rw [ByteArray.size_append, ← bl_size (str _), bl_str, flipL_len, bl_size, extract_size _ _ _ hK]; omega
  · rw [ByteArray.size_append, extract_size _ _ _ hK]; omega
 refine ⟨?_, ?_, by omega⟩
 all_goals
  by_cases ht : torn = true ∧ 0 < K
  · rw [crashT, if_pos ht]
    obtain ⟨_, h0⟩ := ht
    have hb : (bl (p.extract 0 K)) = bl (p.extract 0 (K - 1)) ++ [(bl p)[K - 1]'(by rw [bl_size]; omega)] := by
     have h9 := List.take_succ_eq_append_getElem (l := bl p) (i := K - 1) (by rw [bl_size]; omega)
     rw [Nat.sub_add_cancel h0] at h9
     rw [bl_extract, bl_extract, List.drop_zero, List.drop_zero]
     exact h9
    obtain ⟨x, hx⟩ : ∃ x, (bl p)[K - 1]'(by rw [bl_size]; omega) = x := ⟨_, rfl⟩
    rw [hx] at hb
    have hlow : x.toNat ≤ 126 := by
     obtain ⟨h1, h2, h3⟩ := logB_parts hl
     refine recF_low (s := d ++ p) 60 0 0 (Nat.zero_le _) (d.size + (K - 1)) x (Nat.zero_le _) (by unfold recE at h1; omega) ?_
     rw [bl_append, List.getElem?_append_right (by rw [bl_size]; omega), bl_size, Nat.add_sub_cancel_left, List.getElem?_eq_getElem (by rw [bl_size]; omega), hx]
    have hf : d ++ str (flipL (bl (p.extract 0 K))) = (d ++ p.extract 0 (K - 1)) ++ str [255 - x] := by
     apply bl_inj
     rw [hb, flipL_append _ (by simp), bl_append, bl_str, bl_append, bl_append, bl_str, List.append_assoc]
     congr 2
    have hne : (255 - x : UInt8) ≠ 10 := by
     intro e
     have h5 := u8_flip x
     rw [e] at h5
     have : (10 : UInt8).toNat = 10 := rfl
     omega
    have hr := recF_torn (t := d ++ p.extract 0 (K - 1)) (u := str [255 - x]) hne (by rw [bl_str]) 60 0 0 (Nat.zero_le _)
    obtain ⟨q1, q2⟩ := crash_plain hl (K := K - 1) (by omega)
    rw [hf]
    unfold recL recE at *
    rw [hr]
    first | exact q1 | exact q2
  · rw [crashT, if_neg ht]
    first | exact (crash_plain hl hK).1 | exact (crash_plain hl hK).2
end Go.Proofs.YtkcbgiegoadkbaaGreat
namespace Go.Proofs.YtkcbgiegoadkbaaGreat
open Go.RowKit
set_option linter.unusedVariables false
set_option linter.unusedSimpArgs false
theorem vConsole_same (day pa le : Int) (dd p : ByteArray) (z : Int) (A B : Option Addr) (n c d : Nat) (l : List R5) (w : World) (hn : n ≤ 1048576) (h : Reads w w.heap.size 5 A n (rowsV l)) (h' : Reads w w.heap.size 5 B n (rowsV l)) :
 Calls Tryz.prog 11 #[conV day A n c pa le dd p z, conV day B n d pa le dd p z] w fun e w' => e = .returned (.bool true) ∧ Below w.heap.size w w' := by
 have HE := Lib.hid (fun (w : World) h h' => vSchool_same day pa le A B n c d l w hn h h')
 have H := Lib.hid h
 have H' := Lib.hid h'
 clear h h'
 go_enter Tryz.func11, Tryz.ntmps11
 go_wp2_with fail
 refine (HE.out _ ((H.out.ext (ext_alloc (ext_alloc (ext_refl _) _) _) (Nat.le_refl _)).more (by simp; omega)) ((H'.out.ext (ext_alloc (ext_alloc (ext_refl _) _) _) (Nat.le_refl _)).more (by simp; omega))).mono ?_
 rintro e w1 ⟨rfl, hb1⟩
 obtain ⟨hc1, hf1⟩ := bcell hb1
 have z1 : w.heap.size + 1 < w1.heap.size := by (have := hb1.size; simp at this; omega)
 have z2 : w.heap.size < w1.heap.size := by omega
 have b1 := Lib.hid (ext_trans (ext_alloc (ext_alloc (ext_refl w) _) _) hb1)
 clear hb1
 go_wp2
 go_ret
 exact ⟨rfl, b1.out⟩
end Go.Proofs.YtkcbgiegoadkbaaGreat
namespace Go.Proofs.YtkcbgiegoadkbaaGreat
open Go.RowKit
set_option linter.unusedVariables false
set_option linter.unusedSimpArgs false
theorem asc_step {l : List R5} {k : Nat} {r s : R5} (h : okTo l l.length = true) (hr : l[k + 1]? = some r) (hs : l[k]? = some s) : s.a < r.a := by
 rw [okTo, List.all_eq_true] at h
 have hk := (List.getElem?_eq_some_iff.1 hr).1
 have := h (k + 1) (by simpa using hk)
 simp only [okAt, hr, Bool.and_eq_true, Bool.or_eq_true, decide_eq_true_eq] at this
 have h2 := this.2
 simp only [Nat.add_sub_cancel, hs, decide_eq_true_eq] at h2
 omega
theorem asc_all {l : List R5} (h : okTo l l.length = true) : ∀ (k i : Nat) (r s : R5), l[k]? = some r → l[i]? = some s → i < k → s.a < r.a := by
 intro k
 induction k with
 | zero => intro i r s _ _ hi; omega
 | succ k ih =>
   intro i r s hr hs hi
   obtain ⟨q, hq⟩ := list_split (l := l) (k := k) (by have := (List.getElem?_eq_some_iff.1 hr).1; omega)
   have h1 := asc_step h hr hq
   by_cases e : i = k
   · subst e; rw [hq] at hs; injection hs with hs; rw [← hs]; exact h1
   · have := ih i q s hq hs (by omega)
     omega
theorem sch_ok {day pa le : Int} {l : List R5} (h : schB day l pa le = true) : okTo l l.length = true := by
 simp only [schB, Bool.and_eq_true] at h
 exact h.2
theorem find_at {day pa le : Int} {l : List R5} (h : schB day l pa le = true) {k : Nat} {r : R5} (hr : l[k]? = some r) : findI l r.a = k :=
 findI_hit (fun i s hi hs => by have := asc_all (sch_ok h) k i r s hr hs hi; omega) hr rfl
/-- the line of a student -/
def stuLine (r : R5) : ByteArray := ((decI r.a ++ ⟨#[58, 32]⟩) ++ stuT r) ++ ⟨#[10]⟩
theorem stuT_size (r : R5) : (stuT r).size ≤ 110 := by
 have := decI_size r.b
 have := decI_size r.c
 have := decI_size r.d
 have := decI_size r.e
 unfold stuT
 simp only [ByteArray.size_append, lit_size]
 simp
 omega
theorem stuLine_size (r : R5) : (stuLine r).size ≤ 140 := by
 have := decI_size r.a
 have := stuT_size r
 unfold stuLine
 simp only [ByteArray.size_append, lit_size]
 simp
 omega
def fmtF (l : List R5) : Nat → ByteArray
 | 0 => ⟨#[]⟩
 | k + 1 => fmtF l k ++ (match l[k]? with | some r => stuLine r | none => ⟨#[]⟩)
theorem fmtF_succ {l : List R5} {k : Nat} {r : R5} (h : l[k]? = some r) : fmtF l (k + 1) = fmtF l k ++ stuLine r := by simp [fmtF, h]
theorem fmtF_size (l : List R5) : ∀ k, (fmtF l k).size ≤ k * 140 := by
 intro k
 induction k with
 | zero => exact Nat.le_refl 0
 | succ k ih =>
   unfold fmtF
   rw [ByteArray.size_append]
   split
   · have := stuLine_size (by assumption); omega
   · have : (⟨#[]⟩ : ByteArray).size = 0 := rfl
     omega
/-- the text of a valid console -/
def fmtC (day : Int) (l : List R5) (pa le z : Int) : ByteArray := fmtF l l.length ++ ⟨#[100, 97, 121, 32]⟩ ++ decI day ++ ⟨#[59, 32, 112, 97, 115, 115, 101, 100, 32]⟩ ++ decI pa ++ ⟨#[59, 32, 108, 101, 102, 116, 32]⟩ ++ decI le ++ ⟨#[59, 32, 114, 101, 99, 111, 114, 100, 115, 32]⟩ ++ decI z ++ ⟨#[10]⟩
def fmtS (day : Int) (l : List R5) (pa le : Int) (d p : ByteArray) (z : Int) : ByteArray := if conB day l pa le d p z = true then fmtC day l pa le z else ⟨#[]⟩
end Go.Proofs.YtkcbgiegoadkbaaGreat
namespace Go.Proofs.YtkcbgiegoadkbaaGreat
open Go.RowKit
set_option linter.unusedVariables false
set_option linter.unusedSimpArgs false
theorem ext0_size (p : ByteArray) (K : Nat) (h : K ≤ p.size) : (p.extract 0 K).size = K := by rw [extract_size _ _ _ h]; omega
theorem crash_cases (d p : ByteArray) (z k : Int) (torn : Bool) (P : ByteArray → Bool → Prop) (h1 : logB d p z = false → P ⟨#[]⟩ false) (h2 : logB d p z = true → decide (0 ≤ k ∧ k ≤ (p.size : Int)) = false → P ⟨#[]⟩ false)
 (h3 : ∀ K : Nat, k = K → logB d p z = true → decide ((0 : Int) ≤ K ∧ (K : Int) ≤ (p.size : Int)) = true → K ≤ p.size → torn = false → P (d ++ p.extract 0 K) true)
 (h4 : ∀ K : Nat, k = K → logB d p z = true → decide ((0 : Int) ≤ K ∧ (K : Int) ≤ (p.size : Int)) = true → K ≤ p.size → torn = true → K = 0 → P (d ++ p.extract 0 K) true)
 (h5 : ∀ K : Nat, k = K → logB d p z = true → decide ((0 : Int) ≤ K ∧ (K : Int) ≤ (p.size : Int)) = true → K ≤ p.size → torn = true → 0 < K → P (d ++ str (flipL (bl (p.extract 0 K)))) true) : P (crashB d p z k torn) (crashOk d p z k) := by
 rcases hl : logB d p z with _ | _
 · simpa [crashB, crashOk, hl] using h1 hl
 · rcases hk : decide (0 ≤ k ∧ k ≤ (p.size : Int)) with _ | _
   · have h : crashOk d p z k = false := by rw [crashOk, hl, hk]; rfl
     rw [crashB, h]
     exact h2 hl hk
   · have h : crashOk d p z k = true := by rw [crashOk, hl, hk]; rfl
     rw [crashB, h, if_pos rfl]
     simp only [decide_eq_true_eq] at hk
     obtain ⟨K, rfl⟩ := Int.eq_ofNat_of_zero_le hk.1
     have hk' : decide ((0 : Int) ≤ K ∧ (K : Int) ≤ (p.size : Int)) = true := by simpa using hk
     rw [Int.toNat_natCast]
     cases torn
     · rw [crashT, if_neg (by simp)]; exact h3 K rfl hl hk' (by omega) rfl
     · by_cases h0 : 0 < K
       · rw [crashT, if_pos ⟨rfl, h0⟩]; exact h5 K rfl hl hk' (by omega) rfl h0
       · rw [crashT, if_neg (by simp [h0])]; exact h4 K rfl hl hk' (by omega) rfl (by omega)
theorem ret_str2 {a b : ByteArray} {v : Value} (h : a = b) : Ending.returned (.tuple #[.string a, v]) = .returned (.tuple #[.string b, v]) := by rw [h]
end Go.Proofs.YtkcbgiegoadkbaaGreat
namespace Go.Proofs.YtkcbgiegoadkbaaGreat
open Go.RowKit
set_option linter.unusedVariables false
set_option linter.unusedSimpArgs false
set_option maxHeartbeats 1000000 in
theorem implCrash_3 (d p : ByteArray) (z : Int) (K : Nat) (w : World) (hd : d.size ≤ 2000000) (hp : p.size ≤ 2000000) (hle : K ≤ p.size) (hl : logB d p z = true) (hk : decide ((0 : Int) ≤ K ∧ (K : Int) ≤ (p.size : Int)) = true) :
 Calls Tryz.prog 14 #[logV d p z, .int .i64 K, .bool false] w fun e w' => e = .returned (.tuple #[.string (d ++ p.extract 0 K), .bool true]) ∧ Below w.heap.size w w' := by
 have HV := Lib.hid (fun w => isValidLog_any d p z w hd hp)
 rw [hl] at HV
 have HW := Lib.hid (fun w => within_any K 0 p.size w)
 rw [hk] at HW
 have hz := ext0_size p K hle
 have hzz : (d ++ p.extract 0 K).size = d.size + K := by rw [ByteArray.size_append, hz]
 have kc := fun (w : World) => Lib.run_convert_string_bytes (P := Tryz.prog) w 9 22 5 (d ++ p.extract 0 K) Tryz.underlying9 Tryz.underlying22 Tryz.underlying5
 have hle' : (K : Int) ≤ p.size := by omega
 have HC := Lib.hid (fun (w : World) (cap : Nat) => bytes_back (Lib.bytesWorld w 5 (d ++ p.extract 0 K)) (dst := 9) Tryz.underlying22 Tryz.underlying5 Tryz.underlying9 w.heap.size (d.size + K) cap (bl (d ++ p.extract 0 K)) (by rw [bl_size, hzz]) (fun j hj => bytes_cell _ _ _ _ (by rw [hzz]; exact hj)))
 simp only [str_bl] at HC
 clear hl hk
 go_enter Tryz.func14, Tryz.ntmps14
 go_wp2_with fail
 refine (HV.out _).mono ?_
 rintro e w1 ⟨rfl, hb⟩
 obtain ⟨hc, hf⟩ := bcell hb
 have hzw : w.heap.size < w1.heap.size := by have := hb.size; simp at this; omega
 go_wp2_with (go_at_call 37; refine (HW.out _).mono ?_; rintro e w' ⟨rfl, rfl⟩)
 (refine wp_region_later_tail 7 (by kernel_rfl) (by kernel_rfl) ?_; simp only [List.take_succ_cons, List.take_zero, List.drop_succ_cons, List.drop_zero]; (repeat (go_big_quiet_step (fail))); refine wpQuiet_nil ?_; intro w1 hw1; obtain ⟨⟨wl, hbL⟩, hw1'⟩ := hw1; simp only at hw1'; subst hw1'; obtain ⟨hcL, hfL⟩ := bcell hbL)
 have hzw2 : w.heap.size < w1.heap.size := by have := hbL.size; omega
 have hback := HC.out w1
 have hbB := Lib.hid (ext_trans (ext_trans (ext_trans (ext_alloc (ext_refl w) _) hb) hbL) (below_bytes w1 5 (d ++ p.extract 0 K)))
 go_wp2
 go_ret2
 exact ⟨rfl, hbB.out⟩
set_option maxHeartbeats 1000000 in
theorem implCrash_4 (d p : ByteArray) (z : Int) (K : Nat) (w : World) (hd : d.size ≤ 2000000) (hp : p.size ≤ 2000000) (hle : K ≤ p.size) (hl : logB d p z = true) (hk : decide ((0 : Int) ≤ K ∧ (K : Int) ≤ (p.size : Int)) = true) (h0 : K = 0) :
 Calls Tryz.prog 14 #[logV d p z, .int .i64 K, .bool true] w fun e w' => e = .returned (.tuple #[.string (d ++ p.extract 0 K), .bool true]) ∧ Below w.heap.size w w' := by
 have HV := Lib.hid (fun w => isValidLog_any d p z w hd hp)
 rw [hl] at HV
 have HW := Lib.hid (fun w => within_any K 0 p.size w)
 rw [hk] at HW
 have hz := ext0_size p K hle
 have hzz : (d ++ p.extract 0 K).size = d.size + K := by rw [ByteArray.size_append, hz]
 have kc := fun (w : World) => Lib.run_convert_string_bytes (P := Tryz.prog) w 9 22 5 (d ++ p.extract 0 K) Tryz.underlying9 Tryz.underlying22 Tryz.underlying5
 have hle' : (K : Int) ≤ p.size := by omega
 have HC := Lib.hid (fun (w : World) (cap : Nat) => bytes_back (Lib.bytesWorld w 5 (d ++ p.extract 0 K)) (dst := 9) Tryz.underlying22 Tryz.underlying5 Tryz.underlying9 w.heap.size (d.size + K) cap (bl (d ++ p.extract 0 K)) (by rw [bl_size, hzz]) (fun j hj => bytes_cell _ _ _ _ (by rw [hzz]; exact hj)))
 simp only [str_bl] at HC
 have hnk : decide (0 < K) = false := by simp [h0]
 have hnk' : decide ((0 : Int) < (K : Int)) = false := by simp [h0]
 clear hl hk h0
 go_enter Tryz.func14, Tryz.ntmps14
 go_wp2_with fail
 refine (HV.out _).mono ?_
 rintro e w1 ⟨rfl, hb⟩
 obtain ⟨hc, hf⟩ := bcell hb
 have hzw : w.heap.size < w1.heap.size := by have := hb.size; simp at this; omega
 go_wp2_with (go_at_call 37; refine (HW.out _).mono ?_; rintro e w' ⟨rfl, rfl⟩)
 (refine wp_region_later_tail 7 (by kernel_rfl) (by kernel_rfl) ?_; simp only [List.take_succ_cons, List.take_zero, List.drop_succ_cons, List.drop_zero]; (repeat (go_big_quiet_step (fail))); refine wpQuiet_nil ?_; intro w1 hw1; obtain ⟨⟨wl, hbL⟩, hw1'⟩ := hw1; simp only at hw1'; subst hw1'; obtain ⟨hcL, hfL⟩ := bcell hbL)
 have hzw2 : w.heap.size < w1.heap.size := by have := hbL.size; omega
 have hback := HC.out w1
 have hbB := Lib.hid (ext_trans (ext_trans (ext_trans (ext_alloc (ext_refl w) _) hb) hbL) (below_bytes w1 5 (d ++ p.extract 0 K)))
 go_wp2
 go_ret2
 exact ⟨rfl, hbB.out⟩
set_option maxHeartbeats 1000000 in
theorem implCrash_5 (d p : ByteArray) (z : Int) (K : Nat) (w : World) (hd : d.size ≤ 2000000) (hp : p.size ≤ 2000000) (hle : K ≤ p.size) (hl : logB d p z = true) (hk : decide ((0 : Int) ≤ K ∧ (K : Int) ≤ (p.size : Int)) = true) (h0 : 0 < K) :
 Calls Tryz.prog 14 #[logV d p z, .int .i64 K, .bool true] w fun e w' => e = .returned (.tuple #[.string (d ++ str (flipL (bl (p.extract 0 K)))), .bool true]) ∧ Below w.heap.size w w' := by
 have HV := Lib.hid (fun w => isValidLog_any d p z w hd hp)
 rw [hl] at HV
 have HW := Lib.hid (fun w => within_any K 0 p.size w)
 rw [hk] at HW
 have hz := ext0_size p K hle
 have hzz : (d ++ p.extract 0 K).size = d.size + K := by rw [ByteArray.size_append, hz]
 have kc := fun (w : World) => Lib.run_convert_string_bytes (P := Tryz.prog) w 9 22 5 (d ++ p.extract 0 K) Tryz.underlying9 Tryz.underlying22 Tryz.underlying5
 have hle' : (K : Int) ≤ p.size := by omega
 have HC := Lib.hid (fun (w : World) (cap : Nat) => bytes_back ((Lib.bytesWorld w 5 (d ++ p.extract 0 K)).setCell ⟨w.heap.size, (d.size + K) - 1, none⟩ (.int .u8 (255 - (((bl (d ++ p.extract 0 K)).getD ((d.size + K) - 1) 0).toNat : Int)))) (dst := 9) Tryz.underlying22 Tryz.underlying5 Tryz.underlying9 w.heap.size (d.size + K) cap (flipL (bl (d ++ p.extract 0 K))) (by rw [flipL_len, bl_size, hzz]) (flip_cells (by rw [bl_size, hzz]) (by omega) (fun j hj => bytes_cell _ _ _ _ (by rw [hzz]; exact hj))))
 have HX := Lib.hid (fun (w : World) => bytes_cell w 5 (d ++ p.extract 0 K) ((d.size + K) - 1) (by rw [hzz]; omega))
 have HF := Lib.hid (fun (w : World) => bytes_frozen w 5 (d ++ p.extract 0 K) ((d.size + K) - 1) (by rw [hzz]; omega))
 have hx255 : (((bl (d ++ p.extract 0 K)).getD ((d.size + K) - 1) 0).toNat : Int) ≤ 255 := by have := UInt8.toNat_lt ((bl (d ++ p.extract 0 K)).getD ((d.size + K) - 1) 0); omega
 have hx0 : (0 : Int) ≤ (((bl (d ++ p.extract 0 K)).getD ((d.size + K) - 1) 0).toNat : Int) := by omega
 have hend : Hid (str (flipL (bl (d ++ p.extract 0 K))) = d ++ str (flipL (bl (p.extract 0 K)))) := Lib.hid (by rw [bl_append, flipL_append _ (by rw [bl_size, hz]; exact h0)]; apply bl_inj; rw [bl_str, bl_append, bl_str])
 generalize (((bl (d ++ p.extract 0 K)).getD ((d.size + K) - 1) 0).toNat : Int) = X at HC HX hx255 hx0
 have h1K : (1 : Int) ≤ K := by omega
 have h1K' : (0 : Int) < K := by omega
 have hnk : decide (0 < K) = true := by simp; omega
 have e1 : ((d.size : Int) + (K : Int) - 1).toNat = d.size + K - 1 := by omega
 rw [← hend.out]
 clear hend
 clear hl hk
 go_enter Tryz.func14, Tryz.ntmps14
 go_wp2_with fail
 refine (HV.out _).mono ?_
 rintro e w1 ⟨rfl, hb⟩
 obtain ⟨hc, hf⟩ := bcell hb
 have hzw : w.heap.size < w1.heap.size := by have := hb.size; simp at this; omega
 go_wp2_with (go_at_call 37; refine (HW.out _).mono ?_; rintro e w' ⟨rfl, rfl⟩)
 (refine wp_region_later_tail 7 (by kernel_rfl) (by kernel_rfl) ?_; simp only [List.take_succ_cons, List.take_zero, List.drop_succ_cons, List.drop_zero]; (repeat (go_big_quiet_step (fail))); refine wpQuiet_nil ?_; intro w1 hw1; obtain ⟨⟨wl, hbL⟩, hw1'⟩ := hw1; simp only at hw1'; subst hw1'; obtain ⟨hcL, hfL⟩ := bcell hbL)
 have hzw2 : w.heap.size < w1.heap.size := by have := hbL.size; omega
 have hback := HC.out w1
 have hbB := Lib.hid (ext_trans (ext_trans (ext_trans (ext_alloc (ext_refl w) _) hb) hbL) (below_bytes w1 5 (d ++ p.extract 0 K)))
 have hX := HX.out w1
 have hF := HF.out w1
 go_wp2
 go_ret2
 exact ⟨rfl, ext_set hbB.out (by simp <;> omega) _⟩
theorem implCrash_any (d p : ByteArray) (z k : Int) (torn : Bool) (w : World) (hd : d.size ≤ 2000000) (hp : p.size ≤ 2000000) :
 Calls Tryz.prog 14 #[logV d p z, .int .i64 k, .bool torn] w fun e w' => e = .returned (.tuple #[.string (crashB d p z k torn), .bool (crashOk d p z k)]) ∧ Below w.heap.size w w' := by
 have HV := Lib.hid (fun w => isValidLog_any d p z w hd hp)
 refine crash_cases d p z k torn (fun s b => Calls Tryz.prog 14 #[logV d p z, .int .i64 k, .bool torn] w fun e w' => e = .returned (.tuple #[.string s, .bool b]) ∧ Below w.heap.size w w') ?_ ?_ ?_ ?_ ?_
 · intro hl
   rw [hl] at HV
   clear hl
   go_enter Tryz.func14, Tryz.ntmps14
   go_wp2_with (go_at_call 36; refine (HV.out _).mono ?_; rintro e w' ⟨rfl, hb⟩; obtain ⟨hc, hf⟩ := bcell hb; have hz : w.heap.size < w'.heap.size := by (have := hb.size; (try simp at this); omega))
   go_ret2
   exact ⟨rfl, (by repeat (first | exact ext_refl _ | assumption | refine ext_alloc ?_ _ | refine ext_drew ?_ | refine ext_drewN ?_ _ | refine ext_set ?_ (by simp <;> omega) _ | refine ext_trans ?_ (by assumption)))⟩
 · intro hl hk
   rw [hl] at HV
   have HW := Lib.hid (fun w => within_any k 0 p.size w)
   rw [hk] at HW
   clear hl hk
   go_enter Tryz.func14, Tryz.ntmps14
   go_wp2_with (first | (go_at_call 36; refine (HV.out _).mono ?_; rintro e w' ⟨rfl, hb⟩; obtain ⟨hc, hf⟩ := bcell hb; have hz : w.heap.size < w'.heap.size := by (have := hb.size; (try simp at this); omega)) | (go_at_call 37; refine (HW.out _).mono ?_; rintro e w' ⟨rfl, rfl⟩))
   go_ret2
   exact ⟨rfl, (by repeat (first | exact ext_refl _ | assumption | refine ext_alloc ?_ _ | refine ext_drew ?_ | refine ext_drewN ?_ _ | refine ext_set ?_ (by simp <;> omega) _ | refine ext_trans ?_ (by assumption)))⟩
 · intro K hK hl hk hle ht
   subst hK ht
   exact implCrash_3 d p z K w hd hp hle hl hk
 · intro K hK hl hk hle ht h0
   subst hK ht
   exact implCrash_4 d p z K w hd hp hle hl hk h0
 · intro K hK hl hk hle ht h0
   subst hK ht
   exact implCrash_5 d p z K w hd hp hle hl hk h0

end Go.Proofs.YtkcbgiegoadkbaaGreat
