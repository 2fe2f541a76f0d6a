/- LogRecords: program and reference, walked. -/
import Derived.Test.YtdielldikdmjpaaLgW
namespace Go.Proofs.Ytdielldikdmjpaa
open Go.RowKit
set_option linter.unusedVariables false
set_option linter.unusedSimpArgs false
def lrL (d p : ByteArray) (z : Int) : List CR := if logB d p z = true then recL (d ++ p) else []
theorem lrL_len (d p : ByteArray) (z : Int) : (lrL d p z).length ≤ 60 := by
  unfold lrL; split
  · exact recL_len _
  · simp

set_option maxHeartbeats 1000000 in
theorem implRecords_any (d p : ByteArray) (z : Int) (w : World) (hd : d.size ≤ 2000000) (hp : p.size ≤ 2000000) :
    Calls Try.prog 34 #[logV d p z] w (RetSliceB w 26 2 (lrL d p z).length (recsV (lrL d p z)) (logB d p z)) := by
  have zdp : (d ++ p).size = d.size + p.size := ByteArray.size_append
  have HV := Lib.hid (fun w => isValidLog_any d p z w hd hp)
  have HO := Lib.hid (fun w => recovered_any (d ++ p) w (by omega))
  have e3 := recL_len (d ++ p)
  rcases hb : logB d p z with _ | _
  · rw [show lrL d p z = [] from by simp [lrL, hb]]
    rw [hb] at HV
    clear hb zdp
    go_enter Try.func34, Try.ntmps34
    go_wp2_with (go_at_call 26; refine (HV.out _).mono ?_; rintro e w' ⟨rfl, hb⟩; obtain ⟨hc, hf⟩ := bcell hb; have hz : w.heap.size < w'.heap.size := by (have := hb.size; (try simp at this); omega))
    go_ret2
    exact ⟨none, 0, rfl, World.ownsRow_nil _ _ _ _, (by repeat (first | exact ext_refl _ | assumption | refine ext_alloc ?_ _ | refine ext_drew ?_ | refine ext_drewN ?_ _ | refine ext_set ?_ (by simp <;> omega) _ | refine ext_trans ?_ (by assumption)))⟩
  · rw [show lrL d p z = recL (d ++ p) from by simp [lrL, hb]]
    rw [hb] at HV
    clear hb zdp
    obtain ⟨L, hL⟩ : ∃ L, recL (d ++ p) = L := ⟨_, rfl⟩
    obtain ⟨E, hE⟩ : ∃ E, recE (d ++ p) = E := ⟨_, rfl⟩
    rw [hL] at HO e3 ⊢
    rw [hE] at HO
    obtain ⟨N, hN⟩ : ∃ N, L.length = N := ⟨_, rfl⟩
    unfold RetOpen at HO
    rw [hN] at HO e3 ⊢
    clear hL hE hN
    go_enter Try.func34, Try.ntmps34
    go_wp2_with (go_at_call 26; refine (HV.out _).mono ?_; rintro e w' ⟨rfl, hb⟩; obtain ⟨hc, hf⟩ := bcell hb; have hz : w.heap.size < w'.heap.size := by (have := hb.size; (try simp at this); omega))
    refine (HO.out _).mono ?_
    rintro e w1 ⟨A1, c1, rfl, ho, hb1⟩
    go_wp2
    go_ret2
    exact ⟨A1, c1, rfl, own_base ho (by have := hb.size; (try simp at this); omega), (by repeat (first | exact ext_refl _ | assumption | refine ext_alloc ?_ _ | refine ext_drew ?_ | refine ext_drewN ?_ _ | refine ext_set ?_ (by simp <;> omega) _ | refine ext_trans ?_ (by assumption)))⟩

set_option maxHeartbeats 1000000 in
theorem specRecords_any (d p : ByteArray) (z : Int) (w : World) (hd : d.size ≤ 2000000) (hp : p.size ≤ 2000000) :
    Calls Try.prog 33 #[logV d p z] w (RetSliceB w 26 2 (lrL d p z).length (recsV (lrL d p z)) (logB d p z)) := by
  have zdp : (d ++ p).size = d.size + p.size := ByteArray.size_append
  have HV := Lib.hid (fun w => l27Log_small d p z w hd hp)
  have HO := Lib.hid (fun w => l27Open_any (d ++ p) w (by omega))
  have e3 := recL_len (d ++ p)
  rcases hb : logB d p z with _ | _
  · rw [show lrL d p z = [] from by simp [lrL, hb]]
    rw [hb] at HV
    clear hb zdp
    go_enter Try.func33, Try.ntmps33
    go_wp2_with (go_at_call 53; refine (HV.out _).mono ?_; rintro e w' ⟨rfl, hb⟩; obtain ⟨hc, hf⟩ := bcell hb; have hz : w.heap.size < w'.heap.size := by (have := hb.size; (try simp at this); omega))
    go_ret2
    exact ⟨_, 0, rfl, own_base (own_lit0 _ _ _) (by omega), (by repeat (first | exact ext_refl _ | assumption | refine ext_alloc ?_ _ | refine ext_drew ?_ | refine ext_drewN ?_ _ | refine ext_set ?_ (by simp <;> omega) _ | refine ext_trans ?_ (by assumption)))⟩
  · rw [show lrL d p z = recL (d ++ p) from by simp [lrL, hb]]
    rw [hb] at HV
    clear hb zdp
    obtain ⟨L, hL⟩ : ∃ L, recL (d ++ p) = L := ⟨_, rfl⟩
    obtain ⟨E, hE⟩ : ∃ E, recE (d ++ p) = E := ⟨_, rfl⟩
    rw [hL] at HO e3 ⊢
    rw [hE] at HO
    obtain ⟨N, hN⟩ : ∃ N, L.length = N := ⟨_, rfl⟩
    unfold RetOpen at HO
    rw [hN] at HO e3 ⊢
    clear hL hE hN
    go_enter Try.func33, Try.ntmps33
    go_wp2_with (go_at_call 53; refine (HV.out _).mono ?_; rintro e w' ⟨rfl, hb⟩; obtain ⟨hc, hf⟩ := bcell hb; have hz : w.heap.size < w'.heap.size := by (have := hb.size; (try simp at this); omega))
    refine (HO.out _).mono ?_
    rintro e w1 ⟨A1, c1, rfl, ho, hb1⟩
    go_wp2
    go_ret2
    exact ⟨A1, c1, rfl, own_base ho (by have := hb.size; (try simp at this); omega), (by repeat (first | exact ext_refl _ | assumption | refine ext_alloc ?_ _ | refine ext_drew ?_ | refine ext_drewN ?_ _ | refine ext_set ?_ (by simp <;> omega) _ | refine ext_trans ?_ (by assumption)))⟩
end Go.Proofs.Ytdielldikdmjpaa
