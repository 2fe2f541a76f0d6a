/- A line that was encoded is read back, plainly. -/
import Derived.Test.YtdielldikdmjpaaLg1
import Derived.Test.YtdielldikdmjpaaLgX
import Derived.Test.YtdielldikdmjpaaRecovS
namespace Go.Proofs.Ytdielldikdmjpaa
open Go.RowKit
set_option linter.unusedVariables false
set_option linter.unusedSimpArgs false
theorem tw_app {p : UInt8 → Bool} {a b : List UInt8} (ha : ∀ x ∈ a, p x = true) (hb : ∀ x, b[0]? = some x → p x = false) : (a ++ b).takeWhile p = a := by
  induction a with
  | nil =>
    cases b with
    | nil => rfl
    | cons y b => simp [List.takeWhile_cons, hb y rfl]
  | cons x a ih =>
    simp [List.takeWhile_cons, ha x (by simp), ih (fun y hy => ha y (by simp [hy]))]
theorem not_stands {s : ByteArray} {c : UInt8} (h : standsB s c = false) : ∀ x ∈ bl s, (x != c) = true := by
  intro x hx
  simp only [standsB, decide_eq_false_iff_not] at h
  simp
  intro e
  exact h (e ▸ hx)
def lineL (k : Nat) (c r : ByteArray) : ByteArray := sealB (bodyB (k : Int) c r)
theorem lineB_eq (k : Nat) (c r : ByteArray) : lineB (k : Int) c r = lineL k c r ++ ⟨#[10]⟩ := rfl
theorem body_head (k : Nat) (c r : ByteArray) : bodyB (k : Int) c r = dHead k ++ (c ++ ⟨#[64]⟩ ++ r) := by
  simp only [bodyB, dHead, decI_nat, ByteArray.append_assoc]
theorem line_text {k : Nat} {c r : ByteArray} (h : recB c r = true) : dText (lineL k c r) = bodyB (k : Int) c r := by
  have h1 : standsB (bodyB (k : Int) c r) 35 = false := by
    have := body_ok (n := k) h
    simp only [sealOk, Bool.and_eq_true, Bool.not_eq_true'] at this
    exact this.1.2
  apply bl_inj
  rw [dText, cutB, bl_str, lineL, sealB, ByteArray.append_assoc, bl_append]
  exact tw_app (not_stands h1) (fun x hx => by
    rw [bl_append] at hx
    simp [bl] at hx
    simp [← hx])
theorem ba_take_app (a b : ByteArray) : (a ++ b).extract 0 a.size = a := by
  apply bl_inj
  rw [bl_extract, bl_append, List.drop_zero, ← bl_size, List.take_left']
  rfl
theorem ba_drop_app (a b : ByteArray) : (a ++ b).extract a.size (a ++ b).size = b := by
  apply bl_inj
  rw [bl_extract, ← bl_size (a ++ b), List.take_length, bl_append, ← bl_size, List.drop_left']
  rfl
theorem line_rest {k : Nat} {c r : ByteArray} (h : recB c r = true) : dRest k (lineL k c r) = c ++ ⟨#[64]⟩ ++ r := by
  rw [dRest, line_text h, body_head, ba_drop_app]
theorem line_cmd {k : Nat} {c r : ByteArray} (h : recB c r = true) : dCmd k (lineL k c r) = c := by
  have h1 := (rec_parts h).2.2.2.2.2
  apply bl_inj
  rw [dCmd, line_rest h, cutB, bl_str, ByteArray.append_assoc, bl_append]
  exact tw_app (not_stands h1) (fun x hx => by
    rw [bl_append] at hx
    simp [bl] at hx
    simp [← hx])
theorem line_rep {k : Nat} {c r : ByteArray} (h : recB c r = true) : dRep k (lineL k c r) = r := by
  have e : (c.size + 1) = (c ++ ⟨#[64]⟩ : ByteArray).size := by rw [ByteArray.size_append]; rfl
  rw [dRep, line_cmd h, line_rest h, e, ba_drop_app]
theorem line_at {k : Nat} {c r : ByteArray} (h : recB c r = true) : dAt k (lineL k c r) = true := by
  have h1 : dPre k (lineL k c r) = true := by
    rw [dPre, line_text h, body_head, ba_take_app]
    simp [ByteArray.size_append]
  have h2 : (c ++ ⟨#[64]⟩ ++ r : ByteArray).size = c.size + 1 + r.size := by rw [ByteArray.size_append, ByteArray.size_append]; rfl
  rw [dAt, h1, line_cmd h, line_rest h, h2]
  simp
  omega
theorem line_ok {k : Nat} {c r : ByteArray} (h : recB c r = true) : dOk k (lineL k c r) = true ∧ dC k (lineL k c r) = c ∧ dR k (lineL k c r) = r := by
  have h1 := line_at (k := k) h
  refine ⟨?_, by rw [dC, h1, if_pos rfl, line_cmd h], by rw [dR, h1, if_pos rfl, line_rep h]⟩
  rw [dOk, h1, line_cmd h, line_rep h, h, lineB_eq]
  simp
theorem line_no10 {k : Nat} {c r : ByteArray} (h : recB c r = true) : standsB (lineL k c r) 10 = false := by
  obtain ⟨_, _, _, hc, hr, _⟩ := rec_parts h
  rw [lineL, sealB, bodyB, decI_nat]
  simp only [stands_append]
  rw [stands_dec (by decide), stands_dec (by decide), stands_printed hc (by decide), stands_printed hr (by decide)]
  rw [stands_lit [32] 10, stands_lit [64] 10, stands_lit [35] 10]
  decide
theorem app_ln {s : ByteArray} {k : Nat} {c r : ByteArray} (h : recB c r = true) : ln (s ++ lineB (k : Int) c r) s.size = lineL k c r := by
  apply bl_inj
  rw [ln_bl, bl_append, ← bl_size s, List.drop_left' rfl, lineB_eq, bl_append]
  exact tw_app (not_stands (line_no10 h)) (fun x hx => by
    simp [bl] at hx
    simp [← hx])
theorem lineB_len (k : Nat) (c r : ByteArray) : (lineB (k : Int) c r).size = (lineL k c r).size + 1 := by rw [lineB_eq, ByteArray.size_append]; rfl
theorem app_end {s : ByteArray} {k : Nat} {c r : ByteArray} (h : recB c r = true) : lnEnd (s ++ lineB (k : Int) c r) s.size = s.size + (lineL k c r).size := by rw [lnEnd, app_ln h]
theorem app_step {s : ByteArray} {k : Nat} {c r : ByteArray} (h : recB c r = true) : stepB (s ++ lineB (k : Int) c r) s.size k = true := by
  have h1 := lineB_len k c r
  rw [stepB, app_end h, app_ln h, (line_ok h).1, ByteArray.size_append, h1]
  simp
theorem end_step (s : ByteArray) (k : Nat) : stepB s s.size k = false := by
  have h1 : s.size ≤ lnEnd s s.size := by unfold lnEnd; omega
  rw [stepB, decide_eq_false (by omega)]; rfl
/-- a record more behind the records that fill a text -/
theorem app_rec {s : ByteArray} {f k : Nat} {c r : ByteArray} (h : recB c r = true) : recF (s ++ lineB (k : Int) c r) (f + 1) s.size k = ([(c, r)], (s ++ lineB (k : Int) c r).size) := by
  have h1 : lnEnd (s ++ lineB (k : Int) c r) s.size + 1 = (s ++ lineB (k : Int) c r).size := by rw [app_end h, ByteArray.size_append, lineB_len]; omega
  obtain ⟨_, h2, h3⟩ := line_ok (k := k) h
  rw [recF_yes (app_step h), h1, app_ln h, h2, h3, recF_no (end_step _ _)]
theorem append_rec {s : ByteArray} {k : Nat} {c r : ByteArray} (he : recE s = s.size) (hk : (recL s).length = k) (hk2 : k < 60) (h : recB c r = true) :
    recL (s ++ lineB (k : Int) c r) = recL s ++ [(c, r)] ∧ recE (s ++ lineB (k : Int) c r) = (s ++ lineB (k : Int) c r).size := by
  have h1 := recF_append (t := s) (u := lineB (k : Int) c r) 60 0 0 (Nat.zero_le _) he
  unfold recL at hk
  rw [hk, Nat.zero_add] at h1
  obtain ⟨f, hf⟩ : ∃ f, 60 - k = f + 1 := ⟨59 - k, by omega⟩
  rw [hf, app_rec h] at h1
  unfold recL recE
  rw [h1]
  exact ⟨rfl, rfl⟩
theorem first_rec {c r : ByteArray} (h : recB c r = true) : recL (lineB ((0 : Nat) : Int) c r) = [(c, r)] ∧ recE (lineB ((0 : Nat) : Int) c r) = (lineB ((0 : Nat) : Int) c r).size := by
  have h1 := app_rec (s := ⟨#[]⟩) (f := 59) (k := 0) h
  have e : (⟨#[]⟩ : ByteArray) ++ lineB ((0 : Nat) : Int) c r = lineB ((0 : Nat) : Int) c r := by apply bl_inj; rw [bl_append]; rfl
  rw [e] at h1
  unfold recL recE
  rw [show (⟨#[]⟩ : ByteArray).size = 0 from rfl] at h1
  rw [h1]
  exact ⟨rfl, rfl⟩
theorem head_not0 : ∀ k : Fin 60, 1 ≤ k.val → (bl (dec k.val))[0]? ≠ some 48 := by decide +kernel
theorem other_rec {k : Nat} {c r : ByteArray} (h : recB c r = true) (h1 : 1 ≤ k) (h2 : k ≤ 59) : recL (lineB (k : Int) c r) = [] ∧ recE (lineB (k : Int) c r) = 0 := by
  have hn : stepB (lineB (k : Int) c r) 0 0 = false := by
    rw [Bool.eq_false_iff]
    intro hs
    obtain ⟨_, h3⟩ := stepB_parts hs
    have e : ln (lineB (k : Int) c r) 0 = lineL k c r := by
      have := app_ln (s := ⟨#[]⟩) (k := k) h
      have e : (⟨#[]⟩ : ByteArray) ++ lineB (k : Int) c r = lineB (k : Int) c r := by apply bl_inj; rw [bl_append]; rfl
      rw [e] at this
      exact this
    rw [e] at h3
    have h4 := (dOk_parts h3).1
    simp only [dAt, dPre, Bool.and_eq_true, decide_eq_true_eq] at h4
    have h5 := h4.1.2
    rw [line_text h] at h5
    have h6 := congrArg (fun s => (bl s)[0]?) h5
    have hz : (dHead 0).size = 2 := by decide +kernel
    rw [hz] at h6
    simp only [bl_extract, List.drop_zero] at h6
    rw [List.getElem?_take, if_pos (by omega), body_head, dHead, bl_append, bl_append, List.append_assoc] at h6
    have h7 : 0 < (bl (dec k)).length := by
      have := head_size k
      have h8 : ∀ j : Fin 60, 0 < (bl (dec j.val)).length := by decide +kernel
      exact h8 ⟨k, by omega⟩
    rw [List.getElem?_append_left h7] at h6
    exact head_not0 ⟨k, by omega⟩ h1 (h6.trans (by decide +kernel))
  unfold recL recE
  rw [recF_no hn]
  exact ⟨rfl, rfl⟩
end Go.Proofs.Ytdielldikdmjpaa
