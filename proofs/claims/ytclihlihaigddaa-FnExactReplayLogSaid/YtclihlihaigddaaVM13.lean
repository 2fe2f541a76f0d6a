/- ReplayLog: program and reference return the same; its law, walked. -/
import Derived.Test.YtclihlihaigddaaVRplI
import Derived.Test.YtclihlihaigddaaVRplS
import Derived.Test.YtclihlihaigddaaVM3
import Derived.Test.YtclihlihaigddaaVM1
namespace Go.Proofs.Ytclihlihaigddaa
open Go.RowKit
set_option linter.unusedVariables false
set_option linter.unusedSimpArgs false

theorem implRpl_any (day : Int) (d p : ByteArray) (z : Int) (w : World) (hd : d.size ≤ 2000000) (hp : p.size ≤ 2000000) :
 Calls Try.prog 29 #[.int .i64 day, logV d p z] w (RetRpl (rplN day d p z) (rplB day d p z) w) := by
 unfold rplN rplB
 rcases h1 : inB day 0 4000 with _ | _
 · rw [if_neg (fun h => by cases h.1)]
   exact implRpl_bad1 day d p z w hd hp h1
 rcases h2 : logB d p z with _ | _
 · rw [if_neg (fun h => by cases h.2)]
   exact implRpl_bad2 day d p z w hd hp h1 h2
 · rw [if_pos ⟨rfl, rfl⟩]
   exact implRpl_go day d p z w hd hp h1 h2

theorem specRpl_any (day : Int) (d p : ByteArray) (z : Int) (w : World) (hd : d.size ≤ 2000000) (hp : p.size ≤ 2000000) :
 Calls Try.prog 27 #[.int .i64 day, logV d p z] w (RetRpl (rplN day d p z) (rplB day d p z) w) := by
 unfold rplN rplB
 rcases h1 : inB day 0 4000 with _ | _
 · rw [if_neg (fun h => by cases h.1)]
   exact specRpl_bad1 day d p z w hd hp h1
 rcases h2 : logB d p z with _ | _
 · rw [if_neg (fun h => by cases h.2)]
   exact specRpl_bad2 day d p z w hd hp h1 h2
 · rw [if_pos ⟨rfl, rfl⟩]
   exact specRpl_go day d p z w hd hp h1 h2
theorem law_ReplayLog (day : Int) (d p : ByteArray) (z : Int) (w : World) (hd : d.size ≤ maxLen) (hp : p.size ≤ maxLen) (hz1 : -9223372036854775808 ≤ z) (hz2 : z ≤ 9223372036854775807) :
 Calls Try.prog 6 #[.int .i64 day, logV d p z] w fun e w' => e = .returned (.bool true) ∧ Below w.heap.size w w' := by
 unfold maxLen at hd hp
 have HS := Lib.hid (fun w => szLog_any 1048576 d p z w (by omega) (by omega) (by omega) (by omega))
 rcases szRec_cases 1048576 d p with hs | ⟨hs, hpos⟩
 · rw [hs] at HS
   clear hs
   go_enter Try.func6, Try.ntmps6
   go_wp2_with (go_at_call 26; refine (HS.out _).mono ?_; rintro e w' ⟨rfl, hb⟩)
   go_ret
   exact ⟨rfl, (by repeat (first | exact ext_refl _ | assumption | refine ext_alloc ?_ _ | refine ext_drew ?_ | refine ext_drewN ?_ _ | refine ext_set ?_ (by simp <;> omega) _ | refine ext_trans ?_ (by assumption)))⟩
 · rw [hs] at HS
   clear hs
   have HA := Lib.hid (fun w => specRpl_any day d p z w (by omega) (by omega))
   have HB := Lib.hid (fun w => implRpl_any day d p z w (by omega) (by omega))
   unfold RetRpl at HA HB
   generalize rplN day d p z = N at HA HB
   generalize rplB day d p z = B at HA HB
   go_enter Try.func6, Try.ntmps6
   go_wp2_with (first | (go_at_call 26; refine (HS.out _).mono ?_; rintro e w' ⟨rfl, hb⟩; obtain ⟨hc, hf⟩ := bcell hb; have hz : w.heap.size < w'.heap.size := by (have := hb.size; (try simp at this); omega)) | (go_at_call 28; refine (toLog_any d p z _).mono ?_; rintro e w' ⟨rfl, hb⟩; obtain ⟨hc, hf⟩ := bcell hb; have hz : w.heap.size < w'.heap.size := by (have := hb.size; (try simp at this); omega)) | (go_at_call 27; refine (HA.out _).mono ?_; rintro e w' ⟨rfl, hb⟩; obtain ⟨hc, hf⟩ := bcell hb; have hz : w.heap.size < w'.heap.size := by (have := hb.size; (try simp at this); omega)) | (go_at_call 29; refine (HB.out _).mono ?_; rintro e w' ⟨rfl, hb⟩; obtain ⟨hc, hf⟩ := bcell hb; have hz : w.heap.size < w'.heap.size := by (have := hb.size; (try simp at this); omega)))
   go_ret
   exact ⟨rfl, (by repeat (first | exact ext_refl _ | assumption | refine ext_alloc ?_ _ | refine ext_drew ?_ | refine ext_drewN ?_ _ | refine ext_set ?_ (by simp <;> omega) _ | refine ext_trans ?_ (by assumption)))⟩
end Go.Proofs.Ytclihlihaigddaa
