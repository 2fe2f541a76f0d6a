/- Reading one line of a log as a record: program and reference, all cases joined. -/
import Derived.Test.YtclihlihaigddaaDecI
import Derived.Test.YtclihlihaigddaaDecS
namespace Go.Proofs.Ytclihlihaigddaa
open Go.RowKit
set_option linter.unusedVariables false
set_option linter.unusedSimpArgs false
theorem head_size (k : Nat) : (dHead k).size = (dec k).size + 1 := by
  simp [dHead, ByteArray.size_append, lit_size]
theorem dec_cases (k : Nat) (l : ByteArray) (P : ByteArray → ByteArray → Bool → Prop)
    (h1 : ∀ T D, Hid (dec k = D) → D.size ≤ 20 → Hid (cutB l 35 = T) → T.size ≤ l.size → (T.size : Int) < (D.size : Int) + 1 → P ⟨#[]⟩ ⟨#[]⟩ false)
    (h2 : ∀ T D, Hid (dec k = D) → D.size ≤ 20 → Hid (cutB l 35 = T) → T.size ≤ l.size → (D.size : Int) + 1 ≤ (T.size : Int) → ((T.extract 0 (D.size + 1)).toList == (D ++ ⟨#[32]⟩).toList) = false → P ⟨#[]⟩ ⟨#[]⟩ false)
    (h3 : ∀ T D R C, Hid (dec k = D) → D.size ≤ 20 → Hid (cutB l 35 = T) → T.size ≤ l.size → (D.size : Int) + 1 ≤ (T.size : Int) → ((T.extract 0 (D.size + 1)).toList == (D ++ ⟨#[32]⟩).toList) = true → Hid (T.extract (D.size + 1) T.size = R) → R.size ≤ l.size → Hid (cutB R 64 = C) → C.size ≤ R.size → ((C.size : Int) == (R.size : Int)) = true → P ⟨#[]⟩ ⟨#[]⟩ false)
    (h4 : ∀ T D R C Q, Hid (dec k = D) → D.size ≤ 20 → Hid (cutB l 35 = T) → T.size ≤ l.size → (D.size : Int) + 1 ≤ (T.size : Int) → ((T.extract 0 (D.size + 1)).toList == (D ++ ⟨#[32]⟩).toList) = true → Hid (T.extract (D.size + 1) T.size = R) → R.size ≤ l.size → Hid (cutB R 64 = C) → C.size ≤ R.size → ((C.size : Int) == (R.size : Int)) = false → (C.size : Int) + 1 ≤ (R.size : Int) → Hid (R.extract (C.size + 1) R.size = Q) → Q.size ≤ l.size → recB C Q = false → P C Q false)
    (h5 : ∀ T D R C Q, Hid (dec k = D) → D.size ≤ 20 → Hid (cutB l 35 = T) → T.size ≤ l.size → (D.size : Int) + 1 ≤ (T.size : Int) → ((T.extract 0 (D.size + 1)).toList == (D ++ ⟨#[32]⟩).toList) = true → Hid (T.extract (D.size + 1) T.size = R) → R.size ≤ l.size → Hid (cutB R 64 = C) → C.size ≤ R.size → ((C.size : Int) == (R.size : Int)) = false → (C.size : Int) + 1 ≤ (R.size : Int) → Hid (R.extract (C.size + 1) R.size = Q) → Q.size ≤ l.size → recB C Q = true → P C Q (decide (lineB (k : Int) C Q = l ++ ⟨#[10]⟩))) :
    P (dC k l) (dR k l) (dOk k l) := by
  have zD := dec_size k
  have zH := head_size k
  have zT : (dText l).size ≤ l.size := cutB_size l 35
  have aD : Hid (dec k = dec k) := Lib.hid rfl
  have aT : Hid (cutB l 35 = dText l) := Lib.hid rfl
  have zD' : (dec k).size ≤ 20 := by omega
  by_cases q1 : (dHead k).size ≤ (dText l).size
  · by_cases q2 : (dText l).extract 0 (dHead k).size = dHead k
    · have hp : dPre k l = true := by simp [dPre, q1, q2]
      have b2 : (((dText l).extract 0 ((dec k).size + 1)).toList == (dec k ++ ⟨#[32]⟩).toList) = true := by
        rw [← zH, beq_iff_eq, toList_eq_iff]; exact q2
      have aR : Hid ((dText l).extract ((dec k).size + 1) (dText l).size = dRest k l) := Lib.hid (by rw [← zH]; rfl)
      have zR : (dRest k l).size ≤ l.size := by
        rw [dRest, extract_size _ _ _ (Nat.le_refl _)]; omega
      have aC : Hid (cutB (dRest k l) 64 = dCmd k l) := Lib.hid rfl
      have zC : (dCmd k l).size ≤ (dRest k l).size := cutB_size _ _
      by_cases q3 : (dCmd k l).size = (dRest k l).size
      · have ha : dAt k l = false := by simp [dAt, hp, q3]
        have := h3 (dText l) (dec k) (dRest k l) (dCmd k l) aD zD' aT zT (by omega) b2 aR zR aC zC (by rw [beq_iff_eq]; omega)
        simpa [dC, dR, dOk, ha] using this
      · have ha : dAt k l = true := by simp [dAt, hp, q3]
        have q3' : (((dCmd k l).size : Int) == ((dRest k l).size : Int)) = false := by
          rw [Bool.eq_false_iff]; intro h; rw [beq_iff_eq] at h; omega
        have aQ : Hid ((dRest k l).extract ((dCmd k l).size + 1) (dRest k l).size = dRep k l) := Lib.hid rfl
        have zQ : (dRep k l).size ≤ l.size := by
          rw [dRep, extract_size _ _ _ (Nat.le_refl _)]; omega
        rcases hb : recB (dCmd k l) (dRep k l) with _ | _
        · have := h4 _ _ _ _ _ aD zD' aT zT (by omega) b2 aR zR aC zC q3' (by omega) aQ zQ hb
          simpa [dC, dR, dOk, ha, hb] using this
        · have := h5 _ _ _ _ _ aD zD' aT zT (by omega) b2 aR zR aC zC q3' (by omega) aQ zQ hb
          simpa [dC, dR, dOk, ha, hb] using this
    · have ha : dAt k l = false := by simp [dAt, dPre, q2]
      have b2 : (((dText l).extract 0 ((dec k).size + 1)).toList == (dec k ++ ⟨#[32]⟩).toList) = false := by
        rw [Bool.eq_false_iff]; intro h; rw [← zH, beq_iff_eq, toList_eq_iff] at h; exact q2 h
      have := h2 _ _ aD zD' aT zT (by omega) b2
      simpa [dC, dR, dOk, ha] using this
  · have ha : dAt k l = false := by simp [dAt, dPre, q1]
    have := h1 _ _ aD zD' aT zT (by omega)
    simpa [dC, dR, dOk, ha] using this
theorem decode_any (k : Nat) (l : ByteArray) (w : World) (hk : k ≤ 59) (hl : l.size ≤ 6000000) :
    Calls Try.prog 149 #[.int .i64 k, .string l] w fun e w' => e = .returned (.tuple #[recV (dC k l) (dR k l), .bool (dOk k l)]) ∧ Below w.heap.size w w' :=
  dec_cases k l (fun c r b => Calls Try.prog 149 #[.int .i64 k, .string l] w fun e w' => e = .returned (.tuple #[recV c r, .bool b]) ∧ Below w.heap.size w w')
    (fun T D a b c d e => dec_short k l T D w hk hl a b c d e) (fun T D a b c d e f => dec_head k l T D w hk hl a b c d e f)
    (fun T D R C a b c d e f g h i j m => dec_noat k l T D R C w hk hl a b c d e f g h i j m)
    (fun T D R C Q a b c d e f g h i j m n p q r => dec_bad k l T D R C Q w hk hl a b c d e f g h i j m n p q r)
    (fun T D R C Q a b c d e f g h i j m n p q r => dec_good k l T D R C Q w hk hl a b c d e f g h i j m n p q r)
theorem read_any (k : Nat) (l : ByteArray) (w : World) (hk : k ≤ 59) (hl : l.size ≤ 6000000) :
    Calls Try.prog 157 #[.string l, .int .i64 k] w fun e w' => e = .returned (.tuple #[recV (dC k l) (dR k l), .bool (dOk k l)]) ∧ Below w.heap.size w w' :=
  dec_cases k l (fun c r b => Calls Try.prog 157 #[.string l, .int .i64 k] w fun e w' => e = .returned (.tuple #[recV c r, .bool b]) ∧ Below w.heap.size w w')
    (fun T D a b c d e => read_short k l T D w hk hl a b c d e) (fun T D a b c d e f => read_head k l T D w hk hl a b c d e f)
    (fun T D R C a b c d e f g h i j m => read_noat k l T D R C w hk hl a b c d e f g h i j m)
    (fun T D R C Q a b c d e f g h i j m n p q r => read_bad k l T D R C Q w hk hl a b c d e f g h i j m n p q r)
    (fun T D R C Q a b c d e f g h i j m n p q r => read_good k l T D R C Q w hk hl a b c d e f g h i j m n p q r)
end Go.Proofs.Ytclihlihaigddaa
