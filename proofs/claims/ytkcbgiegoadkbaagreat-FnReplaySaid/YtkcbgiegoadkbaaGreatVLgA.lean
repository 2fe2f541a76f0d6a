/- AppendRecord: program and reference, walked. -/
import Derived.Test.YtkcbgiegoadkbaaGreatVM3
import Derived.Test.YtkcbgiegoadkbaaGreatVM1
namespace Go.Proofs.YtkcbgiegoadkbaaGreat
open Go.RowKit
set_option linter.unusedVariables false
set_option linter.unusedSimpArgs false
set_option maxRecDepth 100000 in
set_option maxHeartbeats 1000000 in
theorem implAppend_any (d p : ByteArray) (z : Int) (c r : ByteArray) (w : World) (hd : d.size ≤ 2000000) (hp : p.size ≤ 2000000) (zc : c.size ≤ 8000000) (zr : r.size ≤ 7000000) :
 Calls Tryz.prog 35 #[logV d p z, recV c r] w fun e w' => e = .returned (.tuple #[logV d (appP d p z c r) (appZ d p z c r), .int .i64 (appC d p z c r)]) ∧ Below w.heap.size w w' := by
 have HV := Lib.hid (fun w => isValidLog_any d p z w hd hp)
 have HR := Lib.hid (fun w => isValidRecord_any c r w (by omega) (by omega))
 refine app_cases d p z c r (fun P Z C => Calls Tryz.prog 35 #[logV d p z, recV c r] w fun e w' => e = .returned (.tuple #[logV d P Z, .int .i64 C]) ∧ Below w.heap.size w w') ?_ ?_ ?_ ?_
 · intro hl
   rw [hl] at HV
   clear hl
   go_enter Tryz.func35, Tryz.ntmps35
   go_wp2_with (go_at_call 36; refine (HV.out _).mono ?_; rintro e w' ⟨rfl, hb⟩; obtain ⟨hc, hf⟩ := bcell hb; have hz3 : w.heap.size + 1 + 1 < w'.heap.size := (by have := hb.size; (try simp at this); omega); have hz2 : w.heap.size + 1 < w'.heap.size := (by omega); have hz : w.heap.size < w'.heap.size := (by omega))
   refine bodyPost_ret (v := .tuple #[logV d p z, .int .i64 1]) (by simp [results, Tryz.results35, go_sem, *]) rfl ⟨rfl, (by repeat (first | exact ext_refl _ | assumption | refine ext_alloc ?_ _ | refine ext_drew ?_ | refine ext_drewN ?_ _ | refine ext_set ?_ (by simp <;> omega) _ | refine ext_trans ?_ (by assumption)))⟩
 · intro hl hr
   rw [hl] at HV
   rw [hr] at HR
   clear hl hr
   go_enter Tryz.func35, Tryz.ntmps35
   go_wp2_with (first | (go_at_call 36; refine (HV.out _).mono ?_; rintro e w' ⟨rfl, hb⟩; obtain ⟨hc, hf⟩ := bcell hb; have hz3 : w.heap.size + 1 + 1 < w'.heap.size := (by have := hb.size; (try simp at this); omega); have hz2 : w.heap.size + 1 < w'.heap.size := (by omega); have hz : w.heap.size < w'.heap.size := (by omega)) | (go_at_call 33; refine (HR.out _).mono ?_; rintro e w' ⟨rfl, hb⟩; obtain ⟨hc, hf⟩ := bcell hb; have hz3 : w.heap.size + 1 + 1 < w'.heap.size := (by have := hb.size; (try simp at this); omega); have hz2 : w.heap.size + 1 < w'.heap.size := (by omega); have hz : w.heap.size < w'.heap.size := (by omega)))
   refine bodyPost_ret (v := .tuple #[logV d p z, .int .i64 1]) (by simp [results, Tryz.results35, go_sem, *]) rfl ⟨rfl, (by repeat (first | exact ext_refl _ | assumption | refine ext_alloc ?_ _ | refine ext_drew ?_ | refine ext_drewN ?_ _ | refine ext_set ?_ (by simp <;> omega) _ | refine ext_trans ?_ (by assumption)))⟩
 · intro hl hr hz60
   have HE := Lib.hid (fun w => implEncode_all z c r w (by omega) (by omega) zc zr)
   have ho : encOk z c r = false := by simp [encOk, hz60]
   have hb : encB z c r = ⟨#[]⟩ := by simp [encB, ho]
   rw [ho, hb] at HE
   rw [hl] at HV
   rw [hr] at HR
   clear hl hr ho hb hz60
   go_enter Tryz.func35, Tryz.ntmps35
   go_wp2_with (first | (go_at_call 36; refine (HV.out _).mono ?_; rintro e w' ⟨rfl, hb⟩; obtain ⟨hc, hf⟩ := bcell hb; have hz3 : w.heap.size + 1 + 1 < w'.heap.size := (by have := hb.size; (try simp at this); omega); have hz2 : w.heap.size + 1 < w'.heap.size := (by omega); have hz : w.heap.size < w'.heap.size := (by omega)) | (go_at_call 33; refine (HR.out _).mono ?_; rintro e w' ⟨rfl, hb⟩; obtain ⟨hc, hf⟩ := bcell hb; have hz3 : w.heap.size + 1 + 1 < w'.heap.size := (by have := hb.size; (try simp at this); omega); have hz2 : w.heap.size + 1 < w'.heap.size := (by omega); have hz : w.heap.size < w'.heap.size := (by omega)) | (go_at_call 67; refine (HE.out _).mono ?_; rintro e w' ⟨rfl, hb⟩; obtain ⟨hc, hf⟩ := bcell hb; have hz3 : w.heap.size + 1 + 1 < w'.heap.size := (by have := hb.size; (try simp at this); omega); have hz2 : w.heap.size + 1 < w'.heap.size := (by omega); have hz : w.heap.size < w'.heap.size := (by omega)))
   refine bodyPost_ret (v := .tuple #[logV d p z, .int .i64 2]) (by simp [results, Tryz.results35, go_sem, *]) rfl ⟨rfl, (by repeat (first | exact ext_refl _ | assumption | refine ext_alloc ?_ _ | refine ext_drew ?_ | refine ext_drewN ?_ _ | refine ext_set ?_ (by simp <;> omega) _ | refine ext_trans ?_ (by assumption)))⟩
 · intro hl hr h0 h59
   have HE := Lib.hid (fun w => implEncode_all z c r w (by omega) (by omega) zc zr)
   have ho : encOk z c r = true := by simp [encOk, hr, h0, h59]
   have hb : encB z c r = lineB z c r := by simp [encB, ho]
   have zX := lineB_size z c r
   have zcr := rec_parts hr
   obtain ⟨X, hX⟩ : ∃ X, lineB z c r = X := ⟨_, rfl⟩
   rw [hX] at zX
   have zX2 : X.size ≤ 405 := by omega
   clear zcr zX
   rw [hX] at hb ⊢
   rw [ho, hb] at HE
   rw [hl] at HV
   rw [hr] at HR
   clear hl hr ho hb hX
   go_enter Tryz.func35, Tryz.ntmps35
   go_wp2_with (first | (go_at_call 36; refine (HV.out _).mono ?_; rintro e w' ⟨rfl, hb⟩; obtain ⟨hc, hf⟩ := bcell hb; have hz3 : w.heap.size + 1 + 1 < w'.heap.size := (by have := hb.size; (try simp at this); omega); have hz2 : w.heap.size + 1 < w'.heap.size := (by omega); have hz : w.heap.size < w'.heap.size := (by omega)) | (go_at_call 33; refine (HR.out _).mono ?_; rintro e w' ⟨rfl, hb⟩; obtain ⟨hc, hf⟩ := bcell hb; have hz3 : w.heap.size + 1 + 1 < w'.heap.size := (by have := hb.size; (try simp at this); omega); have hz2 : w.heap.size + 1 < w'.heap.size := (by omega); have hz : w.heap.size < w'.heap.size := (by omega)) | (go_at_call 67; refine (HE.out _).mono ?_; rintro e w' ⟨rfl, hb⟩; obtain ⟨hc, hf⟩ := bcell hb; have hz3 : w.heap.size + 1 + 1 < w'.heap.size := (by have := hb.size; (try simp at this); omega); have hz2 : w.heap.size + 1 < w'.heap.size := (by omega); have hz : w.heap.size < w'.heap.size := (by omega)))
   refine bodyPost_ret (v := .tuple #[logV d (p ++ X) (z + 1), .int .i64 0]) (by simp [results, Tryz.results35, go_sem, *]) rfl ⟨rfl, (by repeat (first | exact ext_refl _ | assumption | refine ext_alloc ?_ _ | refine ext_drew ?_ | refine ext_drewN ?_ _ | refine ext_set ?_ (by simp <;> omega) _ | refine ext_trans ?_ (by assumption)))⟩
set_option maxRecDepth 100000 in
set_option maxHeartbeats 1000000 in
theorem specAppend_any (d p : ByteArray) (z : Int) (c r : ByteArray) (w : World) (hd : d.size ≤ 2000000) (hp : p.size ≤ 2000000) (zc : c.size ≤ 8000000) (zr : r.size ≤ 7000000) :
 Calls Tryz.prog 21 #[logV d p z, recV c r] w fun e w' => e = .returned (.tuple #[logV d (appP d p z c r) (appZ d p z c r), .int .i64 (appC d p z c r)]) ∧ Below w.heap.size w w' := by
 have HV := Lib.hid (fun w => l27Log_small d p z w hd hp)
 have HR := Lib.hid (fun w => l27Good_any c r w (by omega) (by omega))
 refine app_cases d p z c r (fun P Z C => Calls Tryz.prog 21 #[logV d p z, recV c r] w fun e w' => e = .returned (.tuple #[logV d P Z, .int .i64 C]) ∧ Below w.heap.size w w') ?_ ?_ ?_ ?_
 · intro hl
   rw [hl] at HV
   clear hl
   go_enter Tryz.func21, Tryz.ntmps21
   go_wp2_with (go_at_call 24; refine (HV.out _).mono ?_; rintro e w' ⟨rfl, hb⟩; obtain ⟨hc, hf⟩ := bcell hb; have hz3 : w.heap.size + 1 + 1 < w'.heap.size := (by have := hb.size; (try simp at this); omega); have hz2 : w.heap.size + 1 < w'.heap.size := (by omega); have hz : w.heap.size < w'.heap.size := (by omega))
   refine bodyPost_ret (v := .tuple #[logV d p z, .int .i64 1]) (by simp [results, Tryz.results21, go_sem, *]) rfl ⟨rfl, (by repeat (first | exact ext_refl _ | assumption | refine ext_alloc ?_ _ | refine ext_drew ?_ | refine ext_drewN ?_ _ | refine ext_set ?_ (by simp <;> omega) _ | refine ext_trans ?_ (by assumption)))⟩
 · intro hl hr
   rw [hl] at HV
   rw [hr] at HR
   clear hl hr
   go_enter Tryz.func21, Tryz.ntmps21
   go_wp2_with (first | (go_at_call 24; refine (HV.out _).mono ?_; rintro e w' ⟨rfl, hb⟩; obtain ⟨hc, hf⟩ := bcell hb; have hz3 : w.heap.size + 1 + 1 < w'.heap.size := (by have := hb.size; (try simp at this); omega); have hz2 : w.heap.size + 1 < w'.heap.size := (by omega); have hz : w.heap.size < w'.heap.size := (by omega)) | (go_at_call 42; refine (HR.out _).mono ?_; rintro e w' ⟨rfl, hb⟩; obtain ⟨hc, hf⟩ := bcell hb; have hz3 : w.heap.size + 1 + 1 < w'.heap.size := (by have := hb.size; (try simp at this); omega); have hz2 : w.heap.size + 1 < w'.heap.size := (by omega); have hz : w.heap.size < w'.heap.size := (by omega)))
   refine bodyPost_ret (v := .tuple #[logV d p z, .int .i64 1]) (by simp [results, Tryz.results21, go_sem, *]) rfl ⟨rfl, (by repeat (first | exact ext_refl _ | assumption | refine ext_alloc ?_ _ | refine ext_drew ?_ | refine ext_drewN ?_ _ | refine ext_set ?_ (by simp <;> omega) _ | refine ext_trans ?_ (by assumption)))⟩
 · intro hl hr hz60
   have h60 : (z == 60) = true := by simpa using hz60
   rw [hl] at HV
   rw [hr] at HR
   clear hl hr hz60
   go_enter Tryz.func21, Tryz.ntmps21
   go_wp2_with (first | (go_at_call 24; refine (HV.out _).mono ?_; rintro e w' ⟨rfl, hb⟩; obtain ⟨hc, hf⟩ := bcell hb; have hz3 : w.heap.size + 1 + 1 < w'.heap.size := (by have := hb.size; (try simp at this); omega); have hz2 : w.heap.size + 1 < w'.heap.size := (by omega); have hz : w.heap.size < w'.heap.size := (by omega)) | (go_at_call 42; refine (HR.out _).mono ?_; rintro e w' ⟨rfl, hb⟩; obtain ⟨hc, hf⟩ := bcell hb; have hz3 : w.heap.size + 1 + 1 < w'.heap.size := (by have := hb.size; (try simp at this); omega); have hz2 : w.heap.size + 1 < w'.heap.size := (by omega); have hz : w.heap.size < w'.heap.size := (by omega)))
   refine bodyPost_ret (v := .tuple #[logV d p z, .int .i64 2]) (by simp [results, Tryz.results21, go_sem, *]) rfl ⟨rfl, (by repeat (first | exact ext_refl _ | assumption | refine ext_alloc ?_ _ | refine ext_drew ?_ | refine ext_drewN ?_ _ | refine ext_set ?_ (by simp <;> omega) _ | refine ext_trans ?_ (by assumption)))⟩
 · intro hl hr h0 h59
   have h60 : (z == 60) = false := by rw [beq_eq_false_iff_ne]; omega
   have HE := Lib.hid (fun w => l27Line_any z c r w (by omega) (by omega) zc zr)
   have zX := lineB_size z c r
   have zcr := rec_parts hr
   obtain ⟨X, hX⟩ : ∃ X, lineB z c r = X := ⟨_, rfl⟩
   rw [hX] at zX
   have zX2 : X.size ≤ 405 := by omega
   clear zcr zX
   rw [hX] at HE ⊢
   rw [hl] at HV
   rw [hr] at HR
   clear hl hr hX
   go_enter Tryz.func21, Tryz.ntmps21
   go_wp2_with fail
   refine (HV.out _).mono ?_
   rintro e w1 ⟨rfl, hb1⟩
   obtain ⟨hc1, hf1⟩ := bcell hb1
   have z1 : w.heap.size + 1 + 1 < w1.heap.size := (by have := hb1.size; (try simp at this); omega)
   have z1' : w.heap.size + 1 < w1.heap.size := by omega
   have z1'' : w.heap.size < w1.heap.size := by omega
   go_wp2_with fail
   refine (HR.out _).mono ?_
   rintro e w2 ⟨rfl, hb2⟩
   have z2 : w.heap.size + 1 + 1 < w2.heap.size := (by have := hb2.size; omega)
   have z2' : w.heap.size + 1 < w2.heap.size := by omega
   have z2'' : w.heap.size < w2.heap.size := by omega
   have hb12 := Lib.hid (ext_trans hb1 hb2)
   have q0 : w2.cell? ⟨w.heap.size, 0, none⟩ = some (.string d) := ext_cell hb12.out (by simp [go_sem])
   have q1 : w2.cell? ⟨w.heap.size, 1, none⟩ = some (.string p) := ext_cell hb12.out (by simp [go_sem])
   have q2 : w2.cell? ⟨w.heap.size, 2, none⟩ = some (.int .i64 z) := ext_cell hb12.out (by simp [go_sem])
   have q3 : w2.cell? ⟨w.heap.size + 1, 0, none⟩ = some (.string c) := ext_cell hb12.out (by simp [go_sem])
   have q4 : w2.cell? ⟨w.heap.size + 1, 1, none⟩ = some (.string r) := ext_cell hb12.out (by simp [go_sem])
   have y0 : w2.cell? ⟨w.heap.size + 1 + 1, 0, none⟩ = some (.string ⟨#[]⟩) := ext_cell hb12.out (by simp [go_sem])
   have y1 : w2.cell? ⟨w.heap.size + 1 + 1, 1, none⟩ = some (.string ⟨#[]⟩) := ext_cell hb12.out (by simp [go_sem])
   have y2 : w2.cell? ⟨w.heap.size + 1 + 1, 2, none⟩ = some (.int .i64 0) := ext_cell hb12.out (by simp [go_sem])
   obtain ⟨hc2, hf2⟩ := bcell hb2
   clear hc1 hc2 hf1 hf2
   have hle : p.size + X.size ≤ 9223372036854775807 := by omega
   have hno : ¬ (9223372036854775807 < p.size + X.size) := by omega
   go_wp2
   have fz : w2.frozen? ⟨w.heap.size, 1, none⟩ = false := (hb12.out.frozen (by simp; omega)).trans (by simp [go_sem])
   have fz0 : w2.frozen? ⟨w.heap.size, 2, none⟩ = false := (hb12.out.frozen (by simp; omega)).trans (by simp [go_sem])
   have fy0 : w2.frozen? ⟨w.heap.size + 1 + 1, 0, none⟩ = false := (hb12.out.frozen (by simp)).trans (by simp [go_sem])
   have fy1 : w2.frozen? ⟨w.heap.size + 1 + 1, 1, none⟩ = false := (hb12.out.frozen (by simp)).trans (by simp [go_sem])
   have fy2 : w2.frozen? ⟨w.heap.size + 1 + 1, 2, none⟩ = false := (hb12.out.frozen (by simp)).trans (by simp [go_sem])
   (refine wp_region_later_tail 8 (by kernel_rfl) (by kernel_rfl) ?_; simp only [List.take_succ_cons, List.take_zero, List.drop_succ_cons, List.drop_zero]; (repeat (go_big_quiet_step (first | (go_at_call 48; exact Calls.later_of (HE.out _))))); refine wpQuiet_nil ?_; intro w1 hw1; obtain ⟨⟨wl, hbL⟩, hw1'⟩ := hw1; simp only at hw1'; subst hw1'; obtain ⟨hcL, hfL⟩ := bcell hbL)
   have z3 : w.heap.size + 1 + 1 < w1.heap.size := (by have := hbL.size; (try simp at this); omega)
   have z3' : w.heap.size + 1 < w1.heap.size := by omega
   have z3'' : w.heap.size < w1.heap.size := by omega
   have hB := Lib.hid (ext_trans (ext_trans (ext_alloc (ext_alloc (ext_alloc (ext_refl w) _) _) _) hb12.out) hbL)
   clear hb1 hb2 hb12 hbL
   go_wp2
   refine bodyPost_ret (v := .tuple #[logV d (p ++ X) (z + 1), .int .i64 0]) (by simp [results, Tryz.results21, go_sem, *]) rfl ⟨rfl, (by repeat (first | exact hB.out | refine ext_set ?_ (by simp <;> omega) _))⟩
end Go.Proofs.YtkcbgiegoadkbaaGreat
