/- WastedBeads: the program's and the reference's. -/
import Derived.Test.YtphhelmcaehclaaVGmD
import Derived.Test.YtphhelmcaehclaaVGmE
namespace Go.Proofs.Ytphhelmcaehclaa
open Go.RowKit
set_option linter.unusedVariables false
set_option linter.unusedSimpArgs false
theorem hv {p q : Prop} (h : p) (k : p → q) : q := k h
def wasteOk (u lo : Int) (l : List R2) (ms : List R3) : Bool := frB u lo l && rcdB ms && (playS u lo l ms).isSome
def wasteV (u lo : Int) (l : List R2) (ms : List R3) : Int := if wasteOk u lo l ms = true then beads ms - beads (btw l ((playS u lo l ms).getD []) l.length) else 0
theorem rec_small {ms : List R3} (h : rcdB ms = true) : smallM ms := by
 intro m hm
 unfold rcdB mvsB at h
 simp only [Bool.and_eq_true, List.all_eq_true] at h
 have := okM_iff.1 (h.2.2 m hm)
 omega
theorem play_inv {u lo : Int} {l : List R2} {ms : List R3} (hf : frB u lo l = true) : ∀ x, playS u lo l ms = some x → frB u lo x = true ∧ x.length = l.length := by
 unfold playS
 have key : ∀ (ms : List R3) (o : Option (List R2)), (∀ x, o = some x → frB u lo x = true ∧ x.length = l.length) → ∀ x, ms.foldl (fun o m => o.bind fun x => if mvB u lo x m = true then some (mvL x m) else none) o = some x → frB u lo x = true ∧ x.length = l.length := by
  intro ms
  induction ms with
  | nil => intro o ho x hx; exact ho x hx
  | cons m ms ih =>
    intro o ho x hx
    refine ih _ ?_ x hx
    intro y hy
    rcases o with _ | z
    · cases hy
    · simp only [Option.bind_some] at hy
      split at hy
      · rename_i hmv
        injection hy with hy
        subst hy
        exact ⟨mvB_fr hmv, by rw [mvL_len]; exact (ho z rfl).2⟩
      · cases hy
 exact key ms (some l) (fun x hx => by injection hx with hx; subst hx; exact ⟨hf, rfl⟩)
theorem play_fr {u lo : Int} {l x : List R2} {ms : List R3} (hf : frB u lo l = true) (h : playS u lo l ms = some x) : frB u lo x = true := (play_inv hf x h).1
theorem play_len {u lo : Int} {l x : List R2} {ms : List R3} (h : playS u lo l ms = some x) : x.length = l.length := by
 unfold playS at h
 have key : ∀ (ms : List R3) (o : Option (List R2)), (∀ x, o = some x → x.length = l.length) → ∀ x, ms.foldl (fun o m => o.bind fun x => if mvB u lo x m = true then some (mvL x m) else none) o = some x → x.length = l.length := by
  intro ms
  induction ms with
  | nil => intro o ho x hx; exact ho x hx
  | cons m ms ih =>
    intro o ho x hx
    refine ih _ ?_ x hx
    intro y hy
    rcases o with _ | z
    · cases hy
    · simp only [Option.bind_some] at hy
      split at hy
      · injection hy with hy
        subst hy
        rw [mvL_len]; exact ho z rfl
      · cases hy
 exact key ms (some l) (fun x hx => by injection hx with hx; subst hx; rfl) x h
set_option maxRecDepth 100000 in
set_option maxHeartbeats 4000000 in
theorem implWastedBeads_any (u lo : Int) (A : Option Addr) (n c : Nat) (l : List R2) (B : Option Addr) (k cb : Nat) (ms : List R3) (w : World) (hn : n ≤ 1048576) (hk : k ≤ 1048576) (h : Reads w w.heap.size 2 A n (rowsV2 l)) (hm : Reads w w.heap.size 3 B k (rowsV3 ms)) :
 Calls Try.prog 7 #[frV u lo A n c, .slice B k cb] w (RetV (.tuple #[.int .i64 (wasteV u lo l ms), .bool (wasteOk u lo l ms)]) w) := by
 have hl := rows_len2 h
 have H := Lib.hid h
 have HM := Lib.hid hm
 have BF0 := Lib.hid (Blk.born w #[.int .i64 u, .int .i64 lo, .slice A n c] 26 (H := w.heap.size) rfl)
 have hbx := Lib.hid (ext_alloc (ext_refl w) (.cells #[.int .i64 u, .int .i64 lo, .slice A n c] 26))
 clear h hm
 cases hf : frB u lo l
 · rw [show wasteV u lo l ms = 0 by simp [wasteV, wasteOk, hf], show wasteOk u lo l ms = false by simp [wasteOk, hf]]
   have HF := Lib.hid hf
   clear hf
   go_enter Try.func7, Try.ntmps7
   go_wp2_with fail
   refine (isFrame_any u lo A n c l _ hn (rdx H.out hbx.out)).mono ?_
   rw [HF.out]
   rintro e w1 ⟨rfl, hb1⟩
   go_wp2
   go_ret2
   exact ⟨rfl, ext_trans hbx.out hb1⟩
 cases hrec : rcdB ms
 · rw [show wasteV u lo l ms = 0 by simp [wasteV, wasteOk, hrec], show wasteOk u lo l ms = false by simp [wasteOk, hrec]]
   have HF := Lib.hid hf
   have HREC := Lib.hid hrec
   clear hf hrec
   go_enter Try.func7, Try.ntmps7
   go_wp2_with fail
   refine (isFrame_any u lo A n c l _ hn (rdx H.out hbx.out)).mono ?_
   rw [HF.out]
   rintro e w1 ⟨rfl, hb1⟩
   have hb2 := Lib.hid (ext_trans hbx.out hb1)
   clear hb1
   go_wp2_with fail
   refine (areRecorded_any B k cb ms _ hk (rdx HM.out hb2.out)).mono ?_
   rw [HREC.out]
   rintro e w2 ⟨rfl, hb1⟩
   go_wp2
   go_ret2
   exact ⟨rfl, ext_trans hb2.out hb1⟩
 have hok : ms.all okM = true := by unfold rcdB mvsB at hrec; simp only [Bool.and_eq_true] at hrec; exact hrec.2.2
 have HOK := Lib.hid hok
 clear hok
 rcases hx : playS u lo l ms with _ | x
 · rw [show wasteV u lo l ms = 0 by simp [wasteV, wasteOk, hx], show wasteOk u lo l ms = false by simp [wasteOk, hx]]
   have HP := Lib.hid (fun (w : World) h hm => played_any u lo A n c l B k cb ms w hf HOK.out hk h hm)
   rw [hx, show playF u lo l ms = (0, 0, []) by unfold playF; rw [hx]] at HP
   have HF := Lib.hid hf
   have HREC := Lib.hid hrec
   clear hf hrec hx
   go_enter Try.func7, Try.ntmps7
   go_wp2_with fail
   refine (isFrame_any u lo A n c l _ hn (rdx H.out hbx.out)).mono ?_
   rw [HF.out]
   rintro e w1 ⟨rfl, hb1⟩
   have hb2 := Lib.hid (ext_trans hbx.out hb1)
   obtain ⟨f0, f1, f2⟩ := (BF0.out.ext hb1).q3
   have BF1 := Lib.hid (BF0.out.ext hb1)
   clear hb1
   go_wp2_with fail
   refine (areRecorded_any B k cb ms _ hk (rdx HM.out hb2.out)).mono ?_
   rw [HREC.out]
   rintro e w2 ⟨rfl, hb1⟩
   have hb3 := Lib.hid (ext_trans hb2.out hb1)
   clear f0 f1 f2
   obtain ⟨f0, f1, f2⟩ := (BF1.out.ext hb1).q3
   clear hb1
   go_wp2_with fail
   refine (HP.out _ (rdx H.out hb3.out) (rdx HM.out hb3.out)).mono ?_
   rintro e w3 ⟨A1, c1, rfl, _, hb1⟩
   go_wp2
   go_ret2
   exact ⟨rfl, ext_alloc (ext_trans hb3.out hb1) _⟩
 · rw [show wasteOk u lo l ms = true by simp [wasteOk, hf, hrec, hx]]
   have HP := Lib.hid (fun (w : World) h hm => played_any u lo A n c l B k cb ms w hf HOK.out hk h hm)
   rw [hx, show playF u lo l ms = (u, lo, x) by unfold playF; rw [hx]] at HP
   unfold RetFrB at HP
   dsimp only at HP
   have HSM := Lib.hid (rec_small hrec)
   have hfx := play_fr hf hx
   have hxl : x.length = n := by rw [play_len hx, hl]
   have HSB := Lib.hid (btw_small hf hfx n)
   have hbl : (btw l x n).length ≤ 1048576 := by have := btw_len l x n; have := (frB_head hf).2.2.2; omega
   have hbb := beads_bound (btw_small hf hfx n) (btw l x n).length
   rw [beads_all _ _ (Nat.le_refl _)] at hbb
   have hbl16 := btw_len l x n
   have hb8 := (frB_head hf).2.2.2
   rw [hl] at hb8
   have hba := beads_bound (rec_small hrec) ms.length
   rw [beads_all _ _ (Nat.le_refl _)] at hba
   have hms12 : ms.length ≤ 12 := by unfold rcdB at hrec; simp only [Bool.and_eq_true, decide_eq_true_eq] at hrec; exact hrec.1
   have EV := Lib.hid (show wasteV u lo l ms = beads ms - beads (btw l x n) by unfold wasteV; rw [if_pos (by simp [wasteOk, hf, hrec, hx]), hx, hl]; rfl)
   have HW := Lib.hid (show IntKind.i64.wrap (beads ms - beads (btw l x n)) = beads ms - beads (btw l x n) from IntWalk.i64_in _ (by omega))
   have HF := Lib.hid hf
   have HFX := Lib.hid hfx
   have HREC := Lib.hid hrec
   obtain ⟨ba0, ba1⟩ := hba
   obtain ⟨bb0, bb1⟩ := hbb
   rw [hxl] at HP
   clear hf hrec hx hfx
   go_enter Try.func7, Try.ntmps7
   go_wp2_with fail
   refine (isFrame_any u lo A n c l _ hn (rdx H.out hbx.out)).mono ?_
   rw [HF.out]
   rintro e w1 ⟨rfl, hb1⟩
   have hb2 := Lib.hid (ext_trans hbx.out hb1)
   obtain ⟨f0, f1, f2⟩ := (BF0.out.ext hb1).q3
   have BF1 := Lib.hid (BF0.out.ext hb1)
   clear hb1
   go_wp2_with fail
   refine (areRecorded_any B k cb ms _ hk (rdx HM.out hb2.out)).mono ?_
   rw [HREC.out]
   rintro e w2 ⟨rfl, hb1⟩
   have hb3 := Lib.hid (ext_trans hb2.out hb1)
   have BF2 := Lib.hid (BF1.out.ext hb1)
   clear f0 f1 f2
   obtain ⟨f0, f1, f2⟩ := BF2.out.q3
   clear hb1
   go_wp2_with fail
   refine (HP.out _ (rdx H.out hb3.out) (rdx HM.out hb3.out)).mono ?_
   rintro e w3 ⟨A1, c1, rfl, hr1, hb1⟩
   have hb4 := Lib.hid (ext_trans hb3.out hb1)
   have hr4 := Lib.hid (own_base (base' := w.heap.size) hr1 hb3.out.size)
   have BF4 := Lib.hid (BF2.out.ext hb1)
   obtain ⟨N, hN⟩ : ∃ N, N = w3.heap.size := ⟨_, rfl⟩
   obtain ⟨w5, hW⟩ : ∃ W, W = w3.alloc (.cells #[.int .i64 u, .int .i64 lo, .slice A1 n c1] 26) := ⟨_, rfl⟩
   have BX5 := Lib.hid (show Blk w5 N 26 #[.int .i64 u, .int .i64 lo, .slice A1 n c1] by rw [hW]; exact Blk.born _ _ _ hN)
   have BF5 := Lib.hid (show Blk w5 w.heap.size 26 #[.int .i64 u, .int .i64 lo, .slice A n c] by rw [hW]; exact BF4.out.al _)
   have hr5 := Lib.hid (show w5.ownsRow w.heap.size 96 2 (.slice A1 n c1) n (rowsV2 x) by rw [hW]; exact hr4.out.alloc _)
   have hb5 := Lib.hid (show Below w.heap.size w w5 by rw [hW]; exact ext_alloc hb4.out _)
   have HWN := Lib.hid (And.intro hW hN)
   clear hb1 hr1 f0 f1 f2 hN hW
   go_upto_region 6 with fail
   rw [← HWN.out.2, ← HWN.out.1]
   clear HWN
   obtain ⟨g0, g1, g2⟩ := BX5.out.q3
   obtain ⟨f0, f1, f2⟩ := BF5.out.q3
   have hXl := BX5.out.lt
   have hFl := BF5.out.lt
   go_wp2
   go_region_held3 (fun w' => w'.cell? ⟨N, 0, none⟩ = some (.int .i64 u) ∧ w'.cell? ⟨N, 1, none⟩ = some (.int .i64 lo) ∧ w'.cell? ⟨N, 2, none⟩ = some (.slice A1 n c1) ∧ w'.cell? ⟨w.heap.size, 0, none⟩ = some (.int .i64 u) ∧ w'.cell? ⟨w.heap.size, 1, none⟩ = some (.int .i64 lo) ∧ w'.cell? ⟨w.heap.size, 2, none⟩ = some (.slice A n c)) (first | (go_split_ands; ((repeat' refine And.intro ?_ ?_) <;> with_reducible (repeat (first | assumption | refine cell_drew ?_))))) (first
    | (go_at_call 39; (with_reducible refine (beadsOf_any B k cb ms _ hk HSM.out ?_).mono ?_); (focus (refine rdx HM.out ?_; (repeat (first | (with_reducible exact hb5.out) | (with_reducible assumption) | (with_reducible refine ext_drew ?_) | (with_reducible refine ext_trans ?_ hbA) | (with_reducible refine ext_trans ?_ hbM) | (with_reducible refine ext_trans ?_ hbZ))); done)); rintro e wA ⟨rfl, hbA⟩; refine hv (p := Below w5.heap.size w5 wA) ?_ fun hcA => ?_; (focus ((repeat (first | (with_reducible exact ext_refl _) | (with_reducible assumption) | (with_reducible refine ext_drew ?_) | (with_reducible refine ext_trans ?_ hbA) | (with_reducible refine ext_trans ?_ hbM) | (with_reducible refine ext_trans ?_ hbZ))); done)); obtain ⟨g0A, g1A, g2A⟩ := (BX5.out.ext hcA).q3; obtain ⟨f0A, f1A, f2A⟩ := (BF5.out.ext hcA).q3; have hcA := Lib.hid hcA)
    | (go_at_call 40; (with_reducible refine (movesBetween_any u lo A A1 n c c1 l x _ HF.out HFX.out ?_ ?_).mono ?_); (focus (refine rdx H.out ?_; (repeat (first | (with_reducible exact hb5.out) | (with_reducible assumption) | (with_reducible refine ext_drew ?_) | (with_reducible refine ext_trans ?_ hbA) | (with_reducible refine ext_trans ?_ hbM) | (with_reducible refine ext_trans ?_ hbZ))); done)); (focus (refine Reads.of_own (own_ext hr5.out ?_); (repeat (first | (with_reducible exact ext_refl _) | (with_reducible assumption) | (with_reducible refine ext_drew ?_) | (with_reducible refine ext_trans ?_ hbA) | (with_reducible refine ext_trans ?_ hbM) | (with_reducible refine ext_trans ?_ hbZ))); done)); rintro e wM ⟨Am, cm, rfl, hmm, hbM⟩; refine hv (p := Below w5.heap.size w5 wM) ?_ fun hcM => ?_; (focus ((repeat (first | (with_reducible exact ext_refl _) | (with_reducible assumption) | (with_reducible refine ext_drew ?_) | (with_reducible refine ext_trans ?_ hbA) | (with_reducible refine ext_trans ?_ hbM) | (with_reducible refine ext_trans ?_ hbZ))); done)); obtain ⟨g0M, g1M, g2M⟩ := (BX5.out.ext hcM).q3; obtain ⟨f0M, f1M, f2M⟩ := (BF5.out.ext hcM).q3; have hcM := Lib.hid hcM; have hmmR := Lib.hid hmm; clear hmm)
    | (go_at_call 39; (with_reducible refine (beadsOf_any Am (btw l x n).length cm (btw l x n) _ hbl HSB.out ?_).mono ?_); (focus (refine Reads.of_own (own_ext hmmR.out ?_); (repeat (first | (with_reducible exact ext_refl _) | (with_reducible assumption) | (with_reducible refine ext_drew ?_) | (with_reducible refine ext_trans ?_ hbA) | (with_reducible refine ext_trans ?_ hbM) | (with_reducible refine ext_trans ?_ hbZ))); done)); rintro e wZ ⟨rfl, hbZ⟩; refine hv (p := Below w5.heap.size w5 wZ) ?_ fun hcZ => ?_; (focus ((repeat (first | (with_reducible exact ext_refl _) | (with_reducible assumption) | (with_reducible refine ext_drew ?_) | (with_reducible refine ext_trans ?_ hbA) | (with_reducible refine ext_trans ?_ hbM) | (with_reducible refine ext_trans ?_ hbZ))); done)); obtain ⟨g0Z, g1Z, g2Z⟩ := (BX5.out.ext hcZ).q3; obtain ⟨f0Z, f1Z, f2Z⟩ := (BF5.out.ext hcZ).q3; have hcZ := Lib.hid hcZ))
   all_goals
    go_wp2
    go_ret2
    refine ⟨by show Ending.returned (.tuple #[.int .i64 (IntKind.i64.wrap (beads ms - beads (btw l x n))), .bool true]) = _; rw [HW.out, EV.out], ?_⟩
    (repeat (first | (with_reducible exact hb5.out) | (with_reducible assumption) | (with_reducible refine ext_drew ?_) | (with_reducible refine ext_trans ?_ hbA) | (with_reducible refine ext_trans ?_ hbM) | (with_reducible refine ext_trans ?_ hbZ)))

set_option maxRecDepth 100000 in
set_option maxHeartbeats 4000000 in
theorem specWastedBeads_any (u lo : Int) (A : Option Addr) (n c : Nat) (l : List R2) (B : Option Addr) (k cb : Nat) (ms : List R3) (w : World) (hn : n ≤ 1048576) (hk : k ≤ 1048576) (h : Reads w w.heap.size 2 A n (rowsV2 l)) (hm : Reads w w.heap.size 3 B k (rowsV3 ms)) :
 Calls Try.prog 8 #[frV u lo A n c, .slice B k cb] w (RetV (.tuple #[.int .i64 (wasteV u lo l ms), .bool (wasteOk u lo l ms)]) w) := by
 have hl := rows_len2 h
 have H := Lib.hid h
 have HM := Lib.hid hm
 have BF0 := Lib.hid (Blk.born w #[.int .i64 u, .int .i64 lo, .slice A n c] 26 (H := w.heap.size) rfl)
 have hbx := Lib.hid (ext_alloc (ext_refl w) (.cells #[.int .i64 u, .int .i64 lo, .slice A n c] 26))
 clear h hm
 have HP := fun (w : World) h hm => specPlayMoves_any u lo A n c l B k cb ms w hn hk h hm
 cases hrec : rcdB ms
 · rw [show wasteV u lo l ms = 0 by simp [wasteV, wasteOk, hrec], show wasteOk u lo l ms = false by simp [wasteOk, hrec]]
   have HREC := Lib.hid hrec
   have HPh := Lib.hid HP
   clear hrec HP
   obtain ⟨X, hX⟩ : ∃ X, (if frB u lo l && mvsB ms then playF u lo l ms else (0, 0, [])) = X := ⟨_, rfl⟩
   obtain ⟨o, ho⟩ : ∃ o, (frB u lo l && mvsB ms && (playS u lo l ms).isSome) = o := ⟨_, rfl⟩
   rw [hX, ho] at HPh
   obtain ⟨U, LO, L⟩ := X
   clear hX ho
   go_enter Try.func8, Try.ntmps8
   go_wp2_with fail
   refine (HPh.out _ (rdx H.out hbx.out) (rdx HM.out hbx.out)).mono ?_
   rintro e w1 ⟨A1, c1, rfl, _, hb1⟩
   have hb2 := Lib.hid (ext_alloc (ext_trans hbx.out hb1) (.cells #[.int .i64 U, .int .i64 LO, .slice A1 L.length c1] 26))
   clear hb1
   go_wp2_with fail
   refine (l19Good_any B k cb ms _ hk (rdx HM.out hb2.out)).mono ?_
   rw [HREC.out]
   rintro e w2 ⟨rfl, hb1⟩
   go_wp2
   go_ret2
   exact ⟨rfl, ext_trans hb2.out hb1⟩
 have hmv : mvsB ms = true := by unfold rcdB at hrec; simp only [Bool.and_eq_true] at hrec; exact hrec.2
 cases ho : (frB u lo l && (playS u lo l ms).isSome)
 · rw [show wasteOk u lo l ms = false by rw [Bool.and_eq_false_iff] at ho; rcases ho with ho | ho <;> simp [wasteOk, ho]]
   rw [show wasteV u lo l ms = 0 by rw [Bool.and_eq_false_iff] at ho; rcases ho with ho | ho <;> simp [wasteV, wasteOk, ho]]
   rw [show (frB u lo l && mvsB ms && (playS u lo l ms).isSome) = false by rw [hmv, Bool.and_true]; exact ho] at HP
   have HREC := Lib.hid hrec
   have HPh := Lib.hid HP
   clear hrec HP ho hmv
   obtain ⟨X, hX⟩ : ∃ X, (if frB u lo l && mvsB ms then playF u lo l ms else (0, 0, [])) = X := ⟨_, rfl⟩
   rw [hX] at HPh
   obtain ⟨U, LO, L⟩ := X
   clear hX
   go_enter Try.func8, Try.ntmps8
   go_wp2_with fail
   refine (HPh.out _ (rdx H.out hbx.out) (rdx HM.out hbx.out)).mono ?_
   rintro e w1 ⟨A1, c1, rfl, _, hb1⟩
   have hb2 := Lib.hid (ext_alloc (ext_trans hbx.out hb1) (.cells #[.int .i64 U, .int .i64 LO, .slice A1 L.length c1] 26))
   clear hb1
   go_wp2_with fail
   refine (l19Good_any B k cb ms _ hk (rdx HM.out hb2.out)).mono ?_
   rw [HREC.out]
   rintro e w2 ⟨rfl, hb1⟩
   go_wp2
   go_ret2
   exact ⟨rfl, ext_trans hb2.out hb1⟩
 · rw [Bool.and_eq_true, Option.isSome_iff_exists] at ho
   obtain ⟨hf, x, hx⟩ := ho
   rw [show wasteOk u lo l ms = true by simp [wasteOk, hf, hrec, hx]]
   rw [hf, hmv, show (if (true && true) = true then playF u lo l ms else (0, 0, [])) = (u, lo, x) by unfold playF; rw [hx]; rfl, show (true && true && (playS u lo l ms).isSome) = true by rw [hx]; rfl] at HP
   unfold RetFrB at HP
   dsimp only at HP
   have HSM := Lib.hid (rec_small hrec)
   have hfx := play_fr hf hx
   have hxl : x.length = n := by rw [play_len hx, hl]
   have HSB := Lib.hid (btw_small hf hfx n)
   have hbl : (btw l x n).length ≤ 1048576 := by have := btw_len l x n; have := (frB_head hf).2.2.2; omega
   have hbb := beads_bound (btw_small hf hfx n) (btw l x n).length
   rw [beads_all _ _ (Nat.le_refl _)] at hbb
   have hbl16 := btw_len l x n
   have hb8 := (frB_head hf).2.2.2
   rw [hl] at hb8
   have hba := beads_bound (rec_small hrec) ms.length
   rw [beads_all _ _ (Nat.le_refl _)] at hba
   have hms12 : ms.length ≤ 12 := by unfold rcdB at hrec; simp only [Bool.and_eq_true, decide_eq_true_eq] at hrec; exact hrec.1
   have EV := Lib.hid (show wasteV u lo l ms = beads ms - beads (btw l x n) by unfold wasteV; rw [if_pos (by simp [wasteOk, hf, hrec, hx]), hx, hl]; rfl)
   have HW := Lib.hid (show IntKind.i64.wrap (beads ms - beads (btw l x n)) = beads ms - beads (btw l x n) from IntWalk.i64_in _ (by omega))
   have HF := Lib.hid hf
   have HFX := Lib.hid hfx
   have HREC := Lib.hid hrec
   obtain ⟨ba0, ba1⟩ := hba
   obtain ⟨bb0, bb1⟩ := hbb
   rw [hxl] at HP
   have HPh := Lib.hid HP
   clear hf hrec hx hfx hmv HP
   go_enter Try.func8, Try.ntmps8
   go_wp2_with fail
   refine (HPh.out _ (rdx H.out hbx.out) (rdx HM.out hbx.out)).mono ?_
   rintro e w3 ⟨A1, c1, rfl, hr1, hb1⟩
   have hb4 := Lib.hid (ext_trans hbx.out hb1)
   have hr4 := Lib.hid (own_base (base' := w.heap.size) hr1 hbx.out.size)
   have BF4 := Lib.hid (BF0.out.ext hb1)
   obtain ⟨N, hN⟩ : ∃ N, N = w3.heap.size := ⟨_, rfl⟩
   obtain ⟨w4, hW⟩ : ∃ W, W = w3.alloc (.cells #[.int .i64 u, .int .i64 lo, .slice A1 n c1] 26) := ⟨_, rfl⟩
   have BX4 := Lib.hid (show Blk w4 N 26 #[.int .i64 u, .int .i64 lo, .slice A1 n c1] by rw [hW]; exact Blk.born _ _ _ hN)
   have BF4' := Lib.hid (show Blk w4 w.heap.size 26 #[.int .i64 u, .int .i64 lo, .slice A n c] by rw [hW]; exact BF4.out.al _)
   have hr4' := Lib.hid (show w4.ownsRow w.heap.size 96 2 (.slice A1 n c1) n (rowsV2 x) by rw [hW]; exact hr4.out.alloc _)
   have hb4' := Lib.hid (show Below w.heap.size w w4 by rw [hW]; exact ext_alloc hb4.out _)
   have HWN := Lib.hid (And.intro hW hN)
   clear hb1 hr1 hN hW
   go_wp2_with fail
   rw [← HWN.out.2, ← HWN.out.1]
   clear HWN
   refine (l19Good_any B k cb ms _ hk (rdx HM.out hb4'.out)).mono ?_
   rw [HREC.out]
   rintro e w5 ⟨rfl, hb1⟩
   have BX5 := Lib.hid (BX4.out.ext hb1)
   have BF5 := Lib.hid (BF4'.out.ext hb1)
   have hr5 := Lib.hid (own_ext hr4'.out hb1)
   have hb5 := Lib.hid (ext_trans hb4'.out hb1)
   clear hb1
   go_upto_region 4 with fail
   obtain ⟨g0, g1, g2⟩ := BX5.out.q3
   obtain ⟨f0, f1, f2⟩ := BF5.out.q3
   have hXl := BX5.out.lt
   have hFl := BF5.out.lt
   go_wp2
   go_region_held3 (fun w' => w'.cell? ⟨N, 0, none⟩ = some (.int .i64 u) ∧ w'.cell? ⟨N, 1, none⟩ = some (.int .i64 lo) ∧ w'.cell? ⟨N, 2, none⟩ = some (.slice A1 n c1) ∧ w'.cell? ⟨w.heap.size, 0, none⟩ = some (.int .i64 u) ∧ w'.cell? ⟨w.heap.size, 1, none⟩ = some (.int .i64 lo) ∧ w'.cell? ⟨w.heap.size, 2, none⟩ = some (.slice A n c)) (first | (go_split_ands; ((repeat' refine And.intro ?_ ?_) <;> with_reducible (repeat (first | assumption | refine cell_drew ?_))))) (first
    | (go_at_call 43; (with_reducible refine (l4Beads_any B k cb ms _ hk HSM.out ?_).mono ?_); (focus (refine rdx HM.out ?_; (repeat (first | (with_reducible exact hb5.out) | (with_reducible assumption) | (with_reducible refine ext_drew ?_) | (with_reducible refine ext_trans ?_ hbA) | (with_reducible refine ext_trans ?_ hbM) | (with_reducible refine ext_trans ?_ hbZ))); done)); rintro e wA ⟨rfl, hbA⟩; refine hv (p := Below w5.heap.size w5 wA) ?_ fun hcA => ?_; (focus ((repeat (first | (with_reducible exact ext_refl _) | (with_reducible assumption) | (with_reducible refine ext_drew ?_) | (with_reducible refine ext_trans ?_ hbA) | (with_reducible refine ext_trans ?_ hbM) | (with_reducible refine ext_trans ?_ hbZ))); done)); obtain ⟨g0A, g1A, g2A⟩ := (BX5.out.ext hcA).q3; obtain ⟨f0A, f1A, f2A⟩ := (BF5.out.ext hcA).q3; have hcA := Lib.hid hcA)
    | (go_at_call 44; (with_reducible refine (l4Between_any u lo A A1 n c c1 l x _ HF.out HFX.out ?_ ?_).mono ?_); (focus (refine rdx H.out ?_; (repeat (first | (with_reducible exact hb5.out) | (with_reducible assumption) | (with_reducible refine ext_drew ?_) | (with_reducible refine ext_trans ?_ hbA) | (with_reducible refine ext_trans ?_ hbM) | (with_reducible refine ext_trans ?_ hbZ))); done)); (focus (refine Reads.of_own (own_ext hr5.out ?_); (repeat (first | (with_reducible exact ext_refl _) | (with_reducible assumption) | (with_reducible refine ext_drew ?_) | (with_reducible refine ext_trans ?_ hbA) | (with_reducible refine ext_trans ?_ hbM) | (with_reducible refine ext_trans ?_ hbZ))); done)); rintro e wM ⟨Am, cm, rfl, hmm, hbM⟩; refine hv (p := Below w5.heap.size w5 wM) ?_ fun hcM => ?_; (focus ((repeat (first | (with_reducible exact ext_refl _) | (with_reducible assumption) | (with_reducible refine ext_drew ?_) | (with_reducible refine ext_trans ?_ hbA) | (with_reducible refine ext_trans ?_ hbM) | (with_reducible refine ext_trans ?_ hbZ))); done)); obtain ⟨g0M, g1M, g2M⟩ := (BX5.out.ext hcM).q3; obtain ⟨f0M, f1M, f2M⟩ := (BF5.out.ext hcM).q3; have hcM := Lib.hid hcM; have hmmR := Lib.hid hmm; clear hmm)
    | (go_at_call 43; (with_reducible refine (l4Beads_any Am (btw l x n).length cm (btw l x n) _ hbl HSB.out ?_).mono ?_); (focus (refine Reads.of_own (own_ext hmmR.out ?_); (repeat (first | (with_reducible exact ext_refl _) | (with_reducible assumption) | (with_reducible refine ext_drew ?_) | (with_reducible refine ext_trans ?_ hbA) | (with_reducible refine ext_trans ?_ hbM) | (with_reducible refine ext_trans ?_ hbZ))); done)); rintro e wZ ⟨rfl, hbZ⟩; refine hv (p := Below w5.heap.size w5 wZ) ?_ fun hcZ => ?_; (focus ((repeat (first | (with_reducible exact ext_refl _) | (with_reducible assumption) | (with_reducible refine ext_drew ?_) | (with_reducible refine ext_trans ?_ hbA) | (with_reducible refine ext_trans ?_ hbM) | (with_reducible refine ext_trans ?_ hbZ))); done)); obtain ⟨g0Z, g1Z, g2Z⟩ := (BX5.out.ext hcZ).q3; obtain ⟨f0Z, f1Z, f2Z⟩ := (BF5.out.ext hcZ).q3; have hcZ := Lib.hid hcZ))
   all_goals
    go_wp2
    go_ret2
    refine ⟨by show Ending.returned (.tuple #[.int .i64 (IntKind.i64.wrap (beads ms - beads (btw l x n))), .bool true]) = _; rw [HW.out, EV.out], ?_⟩
    (repeat (first | (with_reducible exact hb5.out) | (with_reducible assumption) | (with_reducible refine ext_drew ?_) | (with_reducible refine ext_trans ?_ hbA) | (with_reducible refine ext_trans ?_ hbM) | (with_reducible refine ext_trans ?_ hbZ)))

end Go.Proofs.Ytphhelmcaehclaa
