
/- Schools, plainly; which are valid: program and reference, walked. -/
import Derived.Test.YtclihlihaigddaaRows5
import Derived.Test.YtclihlihaigddaaLawAid
namespace Go.Proofs.Ytclihlihaigddaa
open Go.RowKit
set_option linter.unusedVariables false
set_option linter.unusedSimpArgs false
/-- between two bounds: kept closed, so that a walk does not open it -/
def inB (n lo hi : Int) : Bool := decide (lo ≤ n ∧ n ≤ hi)
theorem inB_iff {n lo hi : Int} : inB n lo hi = true ↔ lo ≤ n ∧ n ≤ hi := by simp [inB]
theorem inB_within (n lo hi : Int) (w : World) :
    Calls Try.prog 123 #[.int .i64 n, .int .i64 lo, .int .i64 hi] w fun e w' => e = .returned (.bool (inB n lo hi)) ∧ w = w' := by
  go_enter Try.func123, Try.ntmps123
  go_wp2
  all_goals go_ret
  all_goals exact ⟨by simp [inB, *] <;> omega, rfl⟩
theorem inB_l1In (n lo hi : Int) (w : World) :
    Calls Try.prog 150 #[.int .i64 n, .int .i64 lo, .int .i64 hi] w fun e w' => e = .returned (.bool (inB n lo hi)) ∧ w = w' := by
  go_enter Try.func150, Try.ntmps150
  go_wp2
  all_goals go_ret
  all_goals exact ⟨by simp [inB, *] <;> omega, rfl⟩
theorem isDay_any (n : Int) (w : World) : Calls Try.prog 121 #[.int .i64 n] w fun e w' => e = .returned (.bool (inB n 0 4000)) ∧ w = w' := by
  go_enter Try.func121, Try.ntmps121
  go_wp2_with (go_at_call 123; refine (inB_within _ _ _ _).mono ?_; rintro e w' ⟨rfl, rfl⟩)
  go_ret
  exact ⟨rfl, rfl⟩
theorem l2Day_any (n : Int) (w : World) : Calls Try.prog 127 #[.int .i64 n] w fun e w' => e = .returned (.bool (inB n 0 4000)) ∧ w = w' := by
  go_enter Try.func127, Try.ntmps127
  go_wp2_with (go_at_call 150; refine (inB_l1In _ _ _ _).mono ?_; rintro e w' ⟨rfl, rfl⟩)
  all_goals go_ret
  all_goals exact ⟨by simp [inB, *] <;> omega, rfl⟩
theorem isCount_any (n : Int) (w : World) : Calls Try.prog 122 #[.int .i64 n] w fun e w' => e = .returned (.bool (inB n 0 9999)) ∧ w = w' := by
  go_enter Try.func122, Try.ntmps122
  go_wp2_with (go_at_call 123; refine (inB_within _ _ _ _).mono ?_; rintro e w' ⟨rfl, rfl⟩)
  go_ret
  exact ⟨rfl, rfl⟩
/-- a student: number, grade, hours, paid till, fails -/
def stuB (r : R5) : Bool := inB r.a 1 99 && inB r.b 0 10 && inB r.c 0 999 && inB r.d 0 4365 && inB r.e 0 9
theorem stu_cases (r : R5) : (stuB r = true ∧ inB r.a 1 99 = true ∧ inB r.b 0 10 = true ∧ inB r.c 0 999 = true ∧ inB r.d 0 4365 = true ∧ inB r.e 0 9 = true) ∨
    (stuB r = false ∧ inB r.a 1 99 = false) ∨ (stuB r = false ∧ inB r.a 1 99 = true ∧ inB r.b 0 10 = false) ∨
    (stuB r = false ∧ inB r.a 1 99 = true ∧ inB r.b 0 10 = true ∧ inB r.c 0 999 = false) ∨
    (stuB r = false ∧ inB r.a 1 99 = true ∧ inB r.b 0 10 = true ∧ inB r.c 0 999 = true ∧ inB r.d 0 4365 = false) ∨
    (stuB r = false ∧ inB r.a 1 99 = true ∧ inB r.b 0 10 = true ∧ inB r.c 0 999 = true ∧ inB r.d 0 4365 = true ∧ inB r.e 0 9 = false) := by
  unfold stuB
  rcases h1 : inB r.a 1 99 with _ | _ <;> rcases h2 : inB r.b 0 10 with _ | _ <;> rcases h3 : inB r.c 0 999 with _ | _ <;> rcases h4 : inB r.d 0 4365 with _ | _ <;> rcases h5 : inB r.e 0 9 with _ | _ <;> simp
def okAt (l : List R5) (k : Nat) : Bool := match l[k]? with | none => true | some r => stuB r && (decide (k = 0) || match l[k - 1]? with | none => true | some s => decide (s.a < r.a))
def okTo (l : List R5) (k : Nat) : Bool := (List.range k).all (okAt l)
theorem okTo_succ (l : List R5) (k : Nat) : okTo l (k + 1) = (okTo l k && okAt l k) := by simp [okTo, List.range_succ]
theorem okTo_not {l : List R5} {k : Nat} (hk : k < l.length) (h : okAt l k = false) : okTo l l.length = false := by
  rw [Bool.eq_false_iff]
  intro ha
  rw [okTo, List.all_eq_true] at ha
  rw [ha k (by simpa using hk)] at h
  cases h
theorem okAt_bad {l : List R5} {k : Nat} {r : R5} (hr : l[k]? = some r) (h : stuB r = false) : okAt l k = false := by simp [okAt, hr, h]
theorem okAt_zero {l : List R5} {r : R5} (hr : l[0]? = some r) (h : stuB r = true) : okAt l 0 = true := by simp [okAt, hr, h]
theorem okAt_pos {l : List R5} {k : Nat} {r s : R5} (hr : l[k]? = some r) (h : stuB r = true) (hk : 0 < k) (hs : l[k - 1]? = some s) : okAt l k = decide (s.a < r.a) := by
  have : ¬ k = 0 := by omega
  simp [okAt, hr, h, hs, this]
/-- a school is valid: day, students, how many passed, how many left -/
def schB (day : Int) (l : List R5) (pa le : Int) : Bool := inB day 0 4000 && decide (l.length ≤ 8) && inB pa 0 9999 && inB le 0 9999 && okTo l l.length
abbrev schV (day : Int) (A : Option Addr) (n c : Nat) (pa le : Int) : Value := .agg #[.int .i64 day, .slice A n c, .int .i64 pa, .int .i64 le]
theorem sch_of (day : Int) (l : List R5) (pa le : Int) {n : Nat} (hl : l.length = n) : schB day l pa le = (inB day 0 4000 && decide (n ≤ 8) && inB pa 0 9999 && inB le 0 9999 && okTo l n) := by rw [schB, hl]
end Go.Proofs.Ytclihlihaigddaa
