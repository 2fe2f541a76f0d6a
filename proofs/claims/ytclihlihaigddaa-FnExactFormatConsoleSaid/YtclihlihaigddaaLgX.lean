
/- SyncLog, RecoverLog, AppendRecord: program and reference, walked. -/
import Derived.Test.YtclihlihaigddaaLgW
namespace Go.Proofs.Ytclihlihaigddaa
open Go.RowKit
set_option linter.unusedVariables false
set_option linter.unusedSimpArgs false
def syncD (d p : ByteArray) (z : Int) : ByteArray := if logB d p z = true then d ++ p else ⟨#[]⟩
def syncZ (d p : ByteArray) (z : Int) : Int := if logB d p z = true then z else 0
def rcvD (s : ByteArray) : ByteArray := if s.size ≤ 30000 then s.extract 0 (recE s) else ⟨#[]⟩
def rcvN (s : ByteArray) : Nat := if s.size ≤ 30000 then (recL s).length else 0
def rcvE (s : ByteArray) : Nat := if s.size ≤ 30000 then recE s else 0
/-- what appending makes of the pending bytes and of the count, and its code -/
def appOk (d p : ByteArray) (z : Int) (c r : ByteArray) : Bool := logB d p z && recB c r
def appP (d p : ByteArray) (z : Int) (c r : ByteArray) : ByteArray := if appOk d p z c r = true ∧ z ≠ 60 then p ++ lineB z c r else p
def appZ (d p : ByteArray) (z : Int) (c r : ByteArray) : Int := if appOk d p z c r = true ∧ z ≠ 60 then z + 1 else z
def appC (d p : ByteArray) (z : Int) (c r : ByteArray) : Int := if appOk d p z c r = true then (if z = 60 then 2 else 0) else 1
theorem app_cases (d p : ByteArray) (z : Int) (c r : ByteArray) (P : ByteArray → Int → Int → Prop) (h1 : logB d p z = false → P p z 1) (h2 : logB d p z = true → recB c r = false → P p z 1)
    (h3 : logB d p z = true → recB c r = true → z = 60 → P p z 2) (h4 : logB d p z = true → recB c r = true → 0 ≤ z → z ≤ 59 → P (p ++ lineB z c r) (z + 1) 0) : P (appP d p z c r) (appZ d p z c r) (appC d p z c r) := by
  rcases hl : logB d p z with _ | _
  · simpa [appP, appZ, appC, appOk, hl] using h1 hl
  · rcases hr : recB c r with _ | _
    · simpa [appP, appZ, appC, appOk, hl, hr] using h2 hl hr
    · by_cases hz : z = 60
      · rw [show appP d p z c r = p from by simp [appP, hz], show appZ d p z c r = z from by simp [appZ, hz], show appC d p z c r = 2 from by rw [appC, appOk, hl, hr, if_pos (by rfl), if_pos hz]]
        exact h3 hl hr hz
      · have := logB_count hl
        simpa [appP, appZ, appC, appOk, hl, hr, hz] using h4 hl hr this.1 (by omega)

theorem specSync_any (d p : ByteArray) (z : Int) (w : World) (hd : d.size ≤ 2000000) (hp : p.size ≤ 2000000) :
    Calls Try.prog 170 #[logV d p z] w fun e w' => e = .returned (.tuple #[logV (syncD d p z) ⟨#[]⟩ (syncZ d p z), .bool (logB d p z)]) ∧ Below w.heap.size w w' := by
  have HV := Lib.hid (fun w => l27Log_small d p z w hd hp)
  rcases hb : logB d p z with _ | _
  · rw [show syncD d p z = ⟨#[]⟩ from by simp [syncD, hb], show syncZ d p z = 0 from by simp [syncZ, hb]]
    rw [hb] at HV
    clear hb
    go_enter Try.func170, Try.ntmps170
    go_wp2_with (go_at_call 88; refine (HV.out _).mono ?_; rintro e w' ⟨rfl, hb⟩; obtain ⟨hc, hf⟩ := bcell hb; have hz : w.heap.size < w'.heap.size := by (have := hb.size; (try simp at this); omega))
    refine bodyPost_ret (v := .tuple #[logV ⟨#[]⟩ ⟨#[]⟩ 0, .bool false]) (by simp [results, Try.results170, go_sem, hc, hf, hz]) rfl ⟨rfl, (by repeat (first | exact ext_refl _ | assumption | refine ext_alloc ?_ _ | refine ext_drew ?_ | refine ext_drewN ?_ _ | refine ext_set ?_ (by simp <;> omega) _ | refine ext_trans ?_ (by assumption)))⟩
  · rw [show syncD d p z = d ++ p from by simp [syncD, hb], show syncZ d p z = z from by simp [syncZ, hb]]
    rw [hb] at HV
    clear hb
    go_enter Try.func170, Try.ntmps170
    go_wp2_with (go_at_call 88; refine (HV.out _).mono ?_; rintro e w' ⟨rfl, hb⟩; obtain ⟨hc, hf⟩ := bcell hb; have hz : w.heap.size < w'.heap.size := by (have := hb.size; (try simp at this); omega))
    refine bodyPost_ret (v := .tuple #[logV (d ++ p) ⟨#[]⟩ z, .bool true]) (by simp [results, Try.results170, go_sem, hc, hf, hz]) rfl ⟨rfl, (by repeat (first | exact ext_refl _ | assumption | refine ext_alloc ?_ _ | refine ext_drew ?_ | refine ext_drewN ?_ _ | refine ext_set ?_ (by simp <;> omega) _ | refine ext_trans ?_ (by assumption)))⟩

end Go.Proofs.Ytclihlihaigddaa
