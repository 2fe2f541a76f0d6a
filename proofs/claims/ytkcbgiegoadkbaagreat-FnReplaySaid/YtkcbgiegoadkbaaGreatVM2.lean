/- A law's argument that is a code. -/
import Derived.Test.YtkcbgiegoadkbaaGreatVLaw
import Derived.Test.YtkcbgiegoadkbaaGreatVM1
import Derived.Test.YtkcbgiegoadkbaaGreatVCk
import Derived.Test.YtkcbgiegoadkbaaGreatVScTa
import Derived.Laws.CopyOwn
namespace Go.Proofs.YtkcbgiegoadkbaaGreat
open Go.ChangeShapes Go.WideShapes Go.ChangeAt Go.RowKit Go.Deep Go.Joins
set_option maxRecDepth 100000 in
theorem open_code {H : Type} {enc : TypeId × Value → H} {w : World} {base b0 : Nat} {spare : Nat → Bool} {held : Bool} {r : Reach} {v : Value} {d : DataW H} {p : List MemPlace}
 (hv : Value.okWide Tryz.prog w r b0 22 v) (h : DataW.Trod enc Tryz.prog w base spare held 22 v d p) :
 ∃ (A : Option Addr) (n c : Nat), v = .slice A n c ∧ n ≤ maxLen ∧ Code w w.heap.size A n := by
 obtain ⟨a0, len, cap, rfl⟩ := okWide_slice Tryz.underlying22 hv
 obtain ⟨fuel, hf⟩ := h
 rcases open_ints Tryz.underlying22 Tryz.underlying5 (by kernel_rfl) hf with ⟨hcs, _⟩ | ⟨a, len', cap', zs, hcs, hb, hl, hm, hz, hx, hc, hw⟩
 · have hcs : [Value.slice a0 len cap] = [.slice none 0 0] := by simpa [Value.cells] using hcs
   injection hcs with hcs _
   injection hcs with h1 h2 h3
   subst h1 h2 h3
   exact ⟨none, 0, 0, rfl, Nat.zero_le _, fun h => absurd h (by omega)⟩
 · have hcs : [Value.slice a0 len cap] = [.slice (some a) len' cap'] := by simpa [Value.cells] using hcs
   injection hcs with hcs _
   injection hcs with h1 h2 h3
   subst h1 h2 h3
   have hlz : len ≤ zs.length := by rw [hz]; split <;> omega
   refine ⟨some a, len, cap, rfl, by omega, fun h0 => ?_⟩
   have c0 := hc 0 (by omega)
   rw [show a.add 0 = a from by simp [Addr.add]] at c0
   obtain ⟨b, o, rfl⟩ := plain_of_cell c0
   refine ⟨b, o, rfl, World.block_lt_of_cell? w _ c0, fun i hi => ⟨zs.getD i 0, ?_, ?_⟩⟩
   · have := hc i (by omega)
     rwa [add_flat] at this
   · have hm2 : zs.getD i 0 ∈ zs := by
      simp only [List.getD]
      rw [List.getElem?_eq_getElem (by omega)]
      simp
     have := hw _ hm2
     simpa [Lit.wf, IntKind.min, IntKind.max, IntKind.signed, IntKind.bits] using this
end Go.Proofs.YtkcbgiegoadkbaaGreat
namespace Go.Proofs.YtkcbgiegoadkbaaGreat
open Go.RowKit
set_option linter.unusedVariables false
set_option linter.unusedSimpArgs false
theorem decI_nat (n : Nat) : decI (n : Int) = dec n := decI_pos
/-- a text with its checksum -/
def sealB (s : ByteArray) : ByteArray := s ++ ⟨#[35]⟩ ++ dec (ck s)
def sealOk (s : ByteArray) : Bool := decide (s.size ≤ 4000) && !standsB s 35 && decide ((sealB s).size ≤ 4000)
def sealOr (s : ByteArray) : ByteArray := if sealOk s = true then sealB s else ⟨#[]⟩
theorem sealB_size (s : ByteArray) : (sealB s).size ≤ s.size + 21 := by
 have := dec_size (ck s)
 unfold sealB
 simp [ByteArray.size_append, lit_size]
 omega
theorem l1Seal_any (s : ByteArray) (w : World) (hs : s.size ≤ 16777216) :
 Calls Tryz.prog 77 #[.string s] w fun e w' => e = .returned (.string (sealB s)) ∧ Below w.heap.size w w' := by
 have h1 := ck_lt s
 have h2 := decI_size (ck s : Int)
 have E := Lib.hid (decI_nat (ck s))
 go_enter Tryz.func77, Tryz.ntmps77
 go_wp2_with (first | (go_at_call 98; refine (l1Sum_any s _ hs).mono ?_; rintro e w' ⟨rfl, hb⟩; obtain ⟨hc, hf⟩ := bcell hb; have hz := hb.size; (try simp at hz)) | (go_at_call 45; refine (l1Num_any (ck s : Int) _ (by omega) (by omega)).mono ?_; rintro e w' ⟨rfl, hb⟩; obtain ⟨hc, hf⟩ := bcell hb; have hz := hb.size; (try simp at hz)))
 go_ret
 exact ⟨by unfold sealB; rw [← E.out]; rfl, (by repeat (first | exact ext_refl _ | assumption | refine ext_alloc ?_ _ | refine ext_drew ?_ | refine ext_drewN ?_ _ | refine ext_set ?_ (by simp <;> omega) _ | refine ext_trans ?_ (by assumption)))⟩
theorem split_stands (s : ByteArray) (b : UInt8) : decide (1 < (splitL b (bl s)).length) = standsB s b := by
 rw [standsB, splitL_len, Bool.eq_iff_iff]
 simp
theorem splitL_size (s : ByteArray) (b : UInt8) : (splitL b (bl s)).length ≤ s.size + 1 := by
 have := List.count_le_length (a := b) (l := bl s)
 rw [splitL_len]
 rw [bl_size] at this
 omega
def oneB (s : ByteArray) (b : UInt8) : Nat := (splitL b (bl s)).length
theorem split_n (s : ByteArray) (b : UInt8) (w : World) (hs : s.size ≤ 16777216) :
 Calls Tryz.prog 57 #[.string s, .int .u8 (b.toNat : Int)] w (RetSlice w 9 1 (oneB s b) (strsV (splitL b (bl s)))) := split_any s b w hs
set_option maxHeartbeats 1000000 in
theorem appendChecksum_any (s : ByteArray) (w : World) (hs : s.size ≤ 16000000) :
 Calls Tryz.prog 90 #[.string s] w fun e w' => e = .returned (.tuple #[.string (sealOr s), .bool (sealOk s)]) ∧ Below w.heap.size w w' := by
 have hck := ck_lt s
 by_cases h4 : s.size ≤ 4000
 · have hv : (if s.size ≤ 4000 then (ck s : Nat) else 0 : Nat) = ck s := if_pos h4
   have e4 : decide (s.size ≤ 4000) = true := by simpa using h4
   have HC := Lib.hid (fun w => checksum_any s w (by omega))
   rw [hv, e4] at HC
   clear hv e4
   have z1 := decI_size (ck s : Int)
   have z2 := sealB_size s
   have E := Lib.hid (show s ++ ⟨#[35]⟩ ++ decI (ck s : Int) = sealB s by unfold sealB; rw [decI_nat])
   have z3 : (s ++ ⟨#[35]⟩ ++ decI (ck s : Int)).size = (sealB s).size := by rw [E.out]
   have Z3 := Lib.hid z3
   clear z3
   have hone : 1 < oneB s 35 ↔ standsB s 35 = true := by rw [← split_stands s 35]; simp [oneB]
   have hpos : 1 ≤ oneB s 35 := by unfold oneB; rw [splitL_len]; omega
   have hle : oneB s 35 ≤ s.size + 1 := splitL_size s 35
   have hsz : s.size + 1 + (decI (ck s : Int)).size = (sealB s).size := by
    have := Z3.out
    simp only [ByteArray.size_append] at this
    simpa [lit_size] using this
   cases hst : standsB s 35
   · have h1 : ¬ (1 < oneB s 35) := by rw [hone, hst]; simp
     have q1 : (oneB s 35 : Int) ≤ 1 := by omega
     by_cases h5 : (sealB s).size ≤ 4000
     · have eo : sealOk s = true := by simp [sealOk, h4, hst, h5]
       have er : sealOr s = sealB s := by simp [sealOr, eo]
       rw [er, eo]
       have q2 : (s.size : Int) + 1 + ((decI (ck s : Int)).size : Int) ≤ 4000 := by omega
       clear er eo hone hsz h1
       go_enter Tryz.func90, Tryz.ntmps90
       go_wp2_with (first | (go_at_call 102; refine (HC.out _).mono ?_; rintro e w' ⟨rfl, hb⟩) | (go_at_call 62; refine (text_any (ck s : Int) _ (by omega) (by omega)).mono ?_; rintro e w' ⟨rfl, hb⟩; obtain ⟨hc, hf⟩ := bcell hb; have hz := hb.size; (try simp at hz)) | (go_at_call 57; refine (split_n s 35 _ (by omega)).mono ?_; rintro e w' ⟨A, c, rfl, hown, hb⟩; clear hown))
       go_ret2
       exact ⟨by rw [← E.out]; rfl, (by repeat (first | exact ext_refl _ | assumption | refine ext_alloc ?_ _ | refine ext_drew ?_ | refine ext_drewN ?_ _ | refine ext_set ?_ (by simp <;> omega) _ | refine ext_trans ?_ (by assumption)))⟩
     · have eo : sealOk s = false := by simp [sealOk, h5]
       have er : sealOr s = ⟨#[]⟩ := by simp [sealOr, eo]
       rw [er, eo]
       have q2 : 4000 < (s.size : Int) + 1 + ((decI (ck s : Int)).size : Int) := by omega
       clear er eo hone hsz h1
       go_enter Tryz.func90, Tryz.ntmps90
       go_wp2_with (first | (go_at_call 102; refine (HC.out _).mono ?_; rintro e w' ⟨rfl, hb⟩) | (go_at_call 62; refine (text_any (ck s : Int) _ (by omega) (by omega)).mono ?_; rintro e w' ⟨rfl, hb⟩; obtain ⟨hc, hf⟩ := bcell hb; have hz := hb.size; (try simp at hz)) | (go_at_call 57; refine (split_n s 35 _ (by omega)).mono ?_; rintro e w' ⟨A, c, rfl, hown, hb⟩; clear hown))
       go_ret2
       exact ⟨rfl, (by repeat (first | exact ext_refl _ | assumption | refine ext_alloc ?_ _ | refine ext_drew ?_ | refine ext_drewN ?_ _ | refine ext_set ?_ (by simp <;> omega) _ | refine ext_trans ?_ (by assumption)))⟩
   · have h1 : 1 < oneB s 35 := by rw [hone, hst]
     have q1 : 1 < (oneB s 35 : Int) := by omega
     have eo : sealOk s = false := by simp [sealOk, hst]
     have er : sealOr s = ⟨#[]⟩ := by simp [sealOr, eo]
     rw [er, eo]
     clear er eo hone hsz h1
     go_enter Tryz.func90, Tryz.ntmps90
     go_wp2_with (first | (go_at_call 102; refine (HC.out _).mono ?_; rintro e w' ⟨rfl, hb⟩) | (go_at_call 62; refine (text_any (ck s : Int) _ (by omega) (by omega)).mono ?_; rintro e w' ⟨rfl, hb⟩; obtain ⟨hc, hf⟩ := bcell hb; have hz := hb.size; (try simp at hz)) | (go_at_call 57; refine (split_n s 35 _ (by omega)).mono ?_; rintro e w' ⟨A, c, rfl, hown, hb⟩; clear hown))
     go_ret2
     exact ⟨rfl, (by repeat (first | exact ext_refl _ | assumption | refine ext_alloc ?_ _ | refine ext_drew ?_ | refine ext_drewN ?_ _ | refine ext_set ?_ (by simp <;> omega) _ | refine ext_trans ?_ (by assumption)))⟩
 · have hv : (if s.size ≤ 4000 then (ck s : Nat) else 0 : Nat) = 0 := if_neg h4
   have e4 : decide (s.size ≤ 4000) = false := by simpa using h4
   have HC := Lib.hid (fun w => checksum_any s w (by omega))
   rw [hv, e4] at HC
   clear hv e4
   have z1 := decI_size 0
   have eo : sealOk s = false := by simp [sealOk, h4]
   have er : sealOr s = ⟨#[]⟩ := by simp [sealOr, eo]
   rw [er, eo]
   clear er eo
   go_enter Tryz.func90, Tryz.ntmps90
   go_wp2_with (first | (go_at_call 102; refine (HC.out _).mono ?_; rintro e w' ⟨rfl, hb⟩) | (go_at_call 62; refine (text_any 0 _ (by omega) (by omega)).mono ?_; rintro e w' ⟨rfl, hb⟩; obtain ⟨hc, hf⟩ := bcell hb; have hz := hb.size; (try simp at hz)))
   go_ret2
   exact ⟨rfl, (by repeat (first | exact ext_refl _ | assumption | refine ext_alloc ?_ _ | refine ext_drew ?_ | refine ext_drewN ?_ _ | refine ext_set ?_ (by simp <;> omega) _ | refine ext_trans ?_ (by assumption)))⟩
/-- a record is valid -/
def recB (c r : ByteArray) : Bool := decide (1 ≤ c.size ∧ c.size ≤ 160) && decide (r.size ≤ 200) && printedB c && printedB r && !standsB c 64
set_option maxHeartbeats 1000000 in
theorem isValidRecord_any (c r : ByteArray) (w : World) (hc : c.size ≤ 16000000) (hr : r.size ≤ 16000000) :
 Calls Tryz.prog 33 #[.agg #[.string c, .string r]] w fun e w' => e = .returned (.bool (recB c r)) ∧ Below w.heap.size w w' := by
 have hone : 1 < oneB c 64 ↔ standsB c 64 = true := by rw [← split_stands c 64]; simp [oneB]
 have hpos : 1 ≤ oneB c 64 := by unfold oneB; rw [splitL_len]; omega
 have hle : oneB c 64 ≤ c.size + 1 := splitL_size c 64
 have e1 : ((oneB c 64 : Int) == 1) = !standsB c 64 := by
  rw [Bool.eq_iff_iff]
  cases hst : standsB c 64
  · have : ¬ 1 < oneB c 64 := by rw [hone, hst]; simp
    simp; omega
  · have : 1 < oneB c 64 := by rw [hone, hst]
    simp; omega
 have E := Lib.hid e1
 have e2 : recB c r = (decide ((1 : Int) ≤ (c.size : Int) ∧ (c.size : Int) ≤ 160) && decide ((r.size : Int) ≤ 200) && printedB c && printedB r && ((oneB c 64 : Int) == 1)) := by
  have a1 : decide (1 ≤ c.size ∧ c.size ≤ 160) = decide ((1 : Int) ≤ (c.size : Int) ∧ (c.size : Int) ≤ 160) := by rw [decide_eq_decide]; omega
  have a2 : decide (r.size ≤ 200) = decide ((r.size : Int) ≤ 200) := by rw [decide_eq_decide]; omega
  rw [e1, ← a1, ← a2]; rfl
 have E2 := Lib.hid e2
 clear hone e1 e2
 go_enter Tryz.func33, Tryz.ntmps33
 go_wp2_with (first | (go_at_call 37; refine (within_any _ _ _ _).mono ?_; rintro e w' ⟨rfl, rfl⟩) | (go_at_call 56; refine (isPrinted_any _ _ (by omega)).mono ?_; rintro e w' ⟨rfl, hb⟩; obtain ⟨hc, hf⟩ := bcell hb; have hz : w.heap.size < w'.heap.size := by (have := hb.size; (try simp at this); omega)) | (go_at_call 57; refine (split_n c 64 _ (by omega)).mono ?_; rintro e w' ⟨A, c0, rfl, hown, hb⟩; clear hown))
 all_goals go_ret
 all_goals refine ⟨ret_bool ?_, (by repeat (first | exact ext_refl _ | assumption | refine ext_alloc ?_ _ | refine ext_drew ?_ | refine ext_drewN ?_ _ | refine ext_set ?_ (by simp <;> omega) _ | refine ext_trans ?_ (by assumption)))⟩
 all_goals rw [E2.out]
 all_goals first | (simp [*]; done) | (simp [*]; intros; omega)
theorem toList_nil (s : ByteArray) : s.toList = [] ↔ s.size = 0 := by
 rw [ByteArray.toList_eq, ← bl_size]
 unfold bl
 exact List.length_eq_zero_iff.symm
/-- the reference's test of a record -/
theorem l27Good_any (c r : ByteArray) (w : World) (hc : c.size ≤ 16000000) (hr : r.size ≤ 16000000) :
 Calls Tryz.prog 42 #[.agg #[.string c, .string r]] w fun e w' => e = .returned (.bool (recB c r)) ∧ Below w.heap.size w w' := by
 have e2 : recB c r = (!decide (c.toList = []) && (printedB c && decide ((c.size : Int) ≤ 160)) && !standsB c 64 && (printedB r && decide ((r.size : Int) ≤ 200))) := by
  have a1 : decide (1 ≤ c.size ∧ c.size ≤ 160) = (!decide (c.toList = []) && decide ((c.size : Int) ≤ 160)) := by
   have t := toList_nil c
   by_cases hz : c.toList = []
   · have h0 := t.1 hz
     simp [hz, h0]
   · have h0 : c.size ≠ 0 := fun e => hz (t.2 e)
     rw [Bool.eq_iff_iff]
     simp [hz]
     omega
  have a2 : decide (r.size ≤ 200) = decide ((r.size : Int) ≤ 200) := by rw [decide_eq_decide]; omega
  rw [recB, a1, a2]
  cases decide (c.toList = []) <;> cases decide ((c.size : Int) ≤ 160) <;> cases decide ((r.size : Int) ≤ 200) <;> cases printedB c <;> cases printedB r <;> cases standsB c 64 <;> rfl
 have E2 := Lib.hid e2
 clear e2
 go_enter Tryz.func42, Tryz.ntmps42
 go_wp2_with (first | (go_at_call 71; refine (l27Plain_any _ _ _ (by omega)).mono ?_; rintro e w' ⟨rfl, hb⟩; obtain ⟨hc, hf⟩ := bcell hb; have hz : w.heap.size < w'.heap.size := by (have := hb.size; (try simp at this); omega)) | (go_at_call 72; refine (l1Stands_any c 64 _ (by omega)).mono ?_; rintro e w' ⟨rfl, hb⟩; obtain ⟨hc, hf⟩ := bcell hb; have hz : w.heap.size < w'.heap.size := by (have := hb.size; (try simp at this); omega)))
 all_goals go_ret
 all_goals refine ⟨ret_bool ?_, (by repeat (first | exact ext_refl _ | assumption | refine ext_alloc ?_ _ | refine ext_drew ?_ | refine ext_drewN ?_ _ | refine ext_set ?_ (by simp <;> omega) _ | refine ext_trans ?_ (by assumption)))⟩
 all_goals rw [E2.out]
 all_goals first | (simp [*]; done) | (simp [*]; intros; omega)
end Go.Proofs.YtkcbgiegoadkbaaGreat
namespace Go.Proofs.YtkcbgiegoadkbaaGreat
open Go.RowKit
set_option linter.unusedVariables false
set_option linter.unusedSimpArgs false
theorem decF_digits : ∀ (f n : Nat) (c : UInt8), c ∈ decF f n → 48 ≤ c.toNat ∧ c.toNat ≤ 57 := by
 intro f
 induction f with
 | zero => intro n c h; simp [decF] at h
 | succ f ih =>
   intro n c h
   rw [decF] at h
   split at h
   · simp at h
     subst h
     unfold dig
     rw [UInt8.toNat_ofNat']
     omega
   · rw [List.mem_append] at h
     rcases h with h | h
     · exact ih _ _ h
     · simp at h
       subst h
       unfold dig
       rw [UInt8.toNat_ofNat']
       omega
theorem bl_dec (n : Nat) : bl (dec n) = decF 20 n := by simp [bl, dec]
theorem stands_append (a b : ByteArray) (c : UInt8) : standsB (a ++ b) c = (standsB a c || standsB b c) := by
 rw [Bool.eq_iff_iff]; simp [standsB, bl_append]
theorem stands_lit (l : List UInt8) (c : UInt8) : standsB ⟨l.toArray⟩ c = decide (c ∈ l) := by rw [Bool.eq_iff_iff, standsB, decide_eq_true_iff, decide_eq_true_iff]; simp [bl]
theorem stands_dec {n : Nat} {c : UInt8} (h : c.toNat < 48 ∨ 57 < c.toNat) : standsB (dec n) c = false := by
 rw [standsB, bl_dec, decide_eq_false_iff_not]
 intro hc
 have := decF_digits _ _ _ hc
 omega
theorem stands_printed {s : ByteArray} (h : printedB s = true) {c : UInt8} (hc : okByte c = false) : standsB s c = false := by
 rw [standsB, decide_eq_false_iff_not]
 intro hm
 rw [printedB, List.all_eq_true] at h
 have := h c hm
 rw [hc] at this
 cases this
def bodyB (k : Int) (c r : ByteArray) : ByteArray := decI k ++ ⟨#[32]⟩ ++ c ++ ⟨#[64]⟩ ++ r
def lineB (k : Int) (c r : ByteArray) : ByteArray := sealB (bodyB k c r) ++ ⟨#[10]⟩
theorem rec_parts {c r : ByteArray} (h : recB c r = true) : 1 ≤ c.size ∧ c.size ≤ 160 ∧ r.size ≤ 200 ∧ printedB c = true ∧ printedB r = true ∧ standsB c 64 = false := by
 simp only [recB, Bool.and_eq_true, decide_eq_true_eq, Bool.not_eq_true'] at h
 obtain ⟨⟨⟨⟨⟨h1, h2⟩, h3⟩, h4⟩, h5⟩, h6⟩ := h
 exact ⟨h1, h2, h3, h4, h5, h6⟩
theorem body_size (k : Int) (c r : ByteArray) : (bodyB k c r).size ≤ c.size + r.size + 23 := by
 have := decI_size k
 unfold bodyB
 simp [ByteArray.size_append, lit_size]
 omega
theorem body_ok {n : Nat} {c r : ByteArray} (h : recB c r = true) : sealOk (bodyB (n : Int) c r) = true := by
 obtain ⟨h1, h2, h3, h4, h5, h6⟩ := rec_parts h
 have hs := body_size (n : Int) c r
 have hz := sealB_size (bodyB (n : Int) c r)
 have hst : standsB (bodyB (n : Int) c r) 35 = false := by
  unfold bodyB
  rw [decI_nat]
  simp only [stands_append]
  rw [stands_dec (.inl (by decide)), stands_printed h4 (by decide), stands_printed h5 (by decide)]
  decide
 simp [sealOk, hst]
 omega
def encOk (k : Int) (c r : ByteArray) : Bool := decide (0 ≤ k ∧ k ≤ 59) && recB c r
def encB (k : Int) (c r : ByteArray) : ByteArray := if encOk k c r = true then lineB k c r else ⟨#[]⟩
theorem lineB_size (k : Int) (c r : ByteArray) : (lineB k c r).size ≤ c.size + r.size + 45 := by
 have h1 := body_size k c r
 have h2 := sealB_size (bodyB k c r)
 unfold lineB
 simp [ByteArray.size_append, lit_size]
 omega
abbrev recV (c r : ByteArray) : Value := .agg #[.string c, .string r]
set_option maxHeartbeats 1000000 in
theorem l27Line_any (k : Int) (c r : ByteArray) (w : World) (h1 : -9223372036854775807 ≤ k) (h2 : k ≤ 9223372036854775807) (zc : c.size ≤ 8000000) (zr : r.size ≤ 7000000) :
 Calls Tryz.prog 48 #[.int .i64 k, recV c r] w fun e w' => e = .returned (.string (lineB k c r)) ∧ Below w.heap.size w w' := by
 have z1 := decI_size k
 have z2 := body_size k c r
 have z3 := sealB_size (bodyB k c r)
 have E := Lib.hid (show bodyB k c r = decI k ++ ⟨#[32]⟩ ++ c ++ ⟨#[64]⟩ ++ r from rfl)
 go_enter Tryz.func48, Tryz.ntmps48
 go_wp2_with fail
 (refine wp_region_later (by kernel_rfl) (by kernel_rfl) ?_; (repeat (go_big_quiet_step (first | (go_at_call 45; exact Calls.later_of (l1Num_any k _ (by omega) (by omega))) | (go_at_call 77; rw [← E.out]; exact Calls.later_of (l1Seal_any (bodyB k c r) _ (by omega)))))); refine wpQuiet_nil ?_; intro w1 hw1; obtain ⟨⟨wl, hbL⟩, hw1'⟩ := hw1; simp only at hw1'; subst hw1'; obtain ⟨hcL, hfL⟩ := bcell hbL)
 go_wp2
 go_ret
 exact ⟨rfl, (by repeat (first | exact ext_refl _ | assumption | refine ext_alloc ?_ _ | refine ext_drew ?_ | refine ext_drewN ?_ _ | refine ext_set ?_ (by simp <;> omega) _ | refine ext_trans ?_ (by assumption)))⟩
set_option maxHeartbeats 1000000 in
theorem implEncode_any (k : Int) (c r : ByteArray) (w : World) (h1 : -9223372036854775807 ≤ k) (h2 : k ≤ 9223372036854775807) (zc : c.size ≤ 8000000) (zr : r.size ≤ 7000000) :
 Calls Tryz.prog 67 #[.int .i64 k, recV c r] w fun e w' => e = .returned (.tuple #[.string (encB k c r), .bool (encOk k c r)]) ∧ Below w.heap.size w w' := by
 by_cases hk : 0 ≤ k ∧ k ≤ 59
 · have q1 : decide (0 ≤ k ∧ k ≤ 59) = true := by simpa using hk
   cases hb : recB c r
   · have e1 : encOk k c r = false := by simp [encOk, hb]
     have e2 : encB k c r = ⟨#[]⟩ := by simp [encB, e1]
     rw [e1, e2]
     clear e1 e2 hk
     go_enter Tryz.func67, Tryz.ntmps67
     go_wp2_with (first | (go_at_call 37; refine (within_any _ _ _ _).mono ?_; rintro e w' ⟨rfl, rfl⟩) | (go_at_call 33; refine (isValidRecord_any c r _ (by omega) (by omega)).mono ?_; rintro e w' ⟨rfl, hb⟩; obtain ⟨hc, hf⟩ := bcell hb; have hz : w.heap.size < w'.heap.size := by (have := hb.size; (try simp at this); omega)))
     go_ret2
     exact ⟨rfl, (by repeat (first | exact ext_refl _ | assumption | refine ext_alloc ?_ _ | refine ext_drew ?_ | refine ext_drewN ?_ _ | refine ext_set ?_ (by simp <;> omega) _ | refine ext_trans ?_ (by assumption)))⟩
   · have e1 : encOk k c r = true := by simp [encOk, hb, hk]
     have e2 : encB k c r = lineB k c r := by simp [encB, e1]
     rw [e1, e2]
     obtain ⟨k0, k1⟩ := hk
     obtain ⟨n, rfl⟩ := Int.eq_ofNat_of_zero_le k0
     have z1 := decI_size (n : Int)
     have z2 := body_size (n : Int) c r
     have z3 := sealB_size (bodyB (n : Int) c r)
     have hok := body_ok (n := n) hb
     have hse : sealOr (bodyB (n : Int) c r) = sealB (bodyB (n : Int) c r) := by simp [sealOr, hok]
     have E := Lib.hid (show bodyB (n : Int) c r = decI (n : Int) ++ ⟨#[32]⟩ ++ c ++ ⟨#[64]⟩ ++ r from rfl)
     have HC := Lib.hid (fun w => appendChecksum_any (bodyB (n : Int) c r) w (by omega))
     rw [hok, hse] at HC
     clear e1 e2 hok hse
     go_enter Tryz.func67, Tryz.ntmps67
     go_wp2_with (first | (go_at_call 37; refine (within_any _ _ _ _).mono ?_; rintro e w' ⟨rfl, rfl⟩) | (go_at_call 33; refine (isValidRecord_any c r _ (by omega) (by omega)).mono ?_; rintro e w' ⟨rfl, hb⟩; obtain ⟨hc, hf⟩ := bcell hb; have hz : w.heap.size < w'.heap.size := by (have := hb.size; (try simp at this); omega)))
     (refine wp_region_later (by kernel_rfl) (by kernel_rfl) ?_; (repeat (go_big_quiet_step (first | (go_at_call 62; exact Calls.later_of (text_any (n : Int) _ (by omega) (by omega))) | (go_at_call 90; rw [← E.out]; exact Calls.later_of (HC.out _))))); refine wpQuiet_nil ?_; intro w1 hw1; obtain ⟨⟨wl, hbL⟩, hw1'⟩ := hw1; simp only at hw1'; subst hw1'; obtain ⟨hcL, hfL⟩ := bcell hbL)
     go_wp2
     go_ret2
     exact ⟨rfl, (by repeat (first | exact ext_refl _ | assumption | refine ext_alloc ?_ _ | refine ext_drew ?_ | refine ext_drewN ?_ _ | refine ext_set ?_ (by simp <;> omega) _ | refine ext_trans ?_ (by assumption)))⟩
 · have q1 : decide (0 ≤ k ∧ k ≤ 59) = false := by simpa using hk
   have e1 : encOk k c r = false := by simp only [encOk, q1, Bool.false_and]
   have e2 : encB k c r = ⟨#[]⟩ := by simp [encB, e1]
   rw [e1, e2]
   clear e1 e2 hk
   go_enter Tryz.func67, Tryz.ntmps67
   go_wp2_with (go_at_call 37; refine (within_any _ _ _ _).mono ?_; rintro e w' ⟨rfl, rfl⟩)
   go_ret2
   exact ⟨rfl, (by repeat (first | exact ext_refl _ | assumption | refine ext_alloc ?_ _ | refine ext_drew ?_ | refine ext_drewN ?_ _ | refine ext_set ?_ (by simp <;> omega) _ | refine ext_trans ?_ (by assumption)))⟩
theorem implEncode_all (k : Int) (c r : ByteArray) (w : World) (h1 : -9223372036854775808 ≤ k) (h2 : k ≤ 9223372036854775807) (zc : c.size ≤ 8000000) (zr : r.size ≤ 7000000) :
 Calls Tryz.prog 67 #[.int .i64 k, recV c r] w fun e w' => e = .returned (.tuple #[.string (encB k c r), .bool (encOk k c r)]) ∧ Below w.heap.size w w' := by
 by_cases hk : 0 ≤ k ∧ k ≤ 59
 · exact implEncode_any k c r w (by omega) h2 zc zr
 · have q1 : decide (0 ≤ k ∧ k ≤ 59) = false := by simpa using hk
   have e1 : encOk k c r = false := by simp only [encOk, q1, Bool.false_and]
   have e2 : encB k c r = ⟨#[]⟩ := by simp [encB, e1]
   rw [e1, e2]
   clear e1 e2 hk
   go_enter Tryz.func67, Tryz.ntmps67
   go_wp2_with (go_at_call 37; refine (within_any _ _ _ _).mono ?_; rintro e w' ⟨rfl, rfl⟩)
   go_ret2
   exact ⟨rfl, (by repeat (first | exact ext_refl _ | assumption | refine ext_alloc ?_ _ | refine ext_drew ?_ | refine ext_drewN ?_ _ | refine ext_set ?_ (by simp <;> omega) _ | refine ext_trans ?_ (by assumption)))⟩
def szRec (left : Int) (c r : ByteArray) : Int := if left - (c.size : Int) < 0 then -1 else if left - (c.size : Int) - (r.size : Int) < 0 then -1 else left - (c.size : Int) - (r.size : Int)
theorem szRec_cases (left : Int) (c r : ByteArray) : szRec left c r = -1 ∨ (szRec left c r = left - (c.size : Int) - (r.size : Int) ∧ 0 ≤ left - (c.size : Int) - (r.size : Int)) := by
 unfold szRec
 split
 · exact .inl rfl
 · split
   · exact .inl rfl
   · exact .inr ⟨rfl, by omega⟩
end Go.Proofs.YtkcbgiegoadkbaaGreat
namespace Go.Proofs.YtkcbgiegoadkbaaGreat
open Go.RowKit
set_option linter.unusedVariables false
set_option linter.unusedSimpArgs false
def cutB (s : ByteArray) (b : UInt8) : ByteArray := str ((bl s).takeWhile (· != b))
theorem cutB_size (s : ByteArray) (b : UInt8) : (cutB s b).size ≤ s.size := by
 rw [← bl_size, ← bl_size, cutB, bl_str]
 exact (List.takeWhile_sublist _).length_le
/-- split hands back the piece ahead of the first such byte as its first -/
def SplitRet (w : World) (s : ByteArray) (b : UInt8) (e : Ending) (w' : World) : Prop :=
 ∃ g c, e = .returned (.slice (some ⟨g, 0, none⟩) (oneB s b) c) ∧ w'.cell? ⟨g, 0, none⟩ = some (.string (cutB s b)) ∧ 1 ≤ oneB s b ∧ oneB s b ≤ s.size + 1 ∧ Below w.heap.size w w'
theorem splitRet_of {w : World} {s : ByteArray} {b : UInt8} {e : Ending} {w' : World} (h : RetSlice w 9 1 (splitL b (bl s)).length (strsV (splitL b (bl s))) e w') : SplitRet w s b e w' := by
 obtain ⟨A, c, rfl, hown, hb⟩ := h
 have hpos : 1 ≤ (splitL b (bl s)).length := by rw [splitL_len]; omega
 obtain ⟨g, cap, hv, hbg, hglt⟩ := hown.form (by omega)
 injection hv with hA _ hcap
 subst hA hcap
 refine ⟨g, c, rfl, ?_, hpos, splitL_size s b, hb⟩
 rw [hown.cellAt 0 (by omega)]
 simp [strsV, splitL_head, cutB]
theorem split_ret (s : ByteArray) (b : UInt8) (w : World) (hs : s.size ≤ 16777216) : Calls Tryz.prog 57 #[.string s, .int .u8 (b.toNat : Int)] w (SplitRet w s b) :=
 (split_any s b w hs).mono fun _ _ h => splitRet_of h
theorem l1Split_ret (s : ByteArray) (b : UInt8) (w : World) (hs : s.size ≤ 16777216) : Calls Tryz.prog 30 #[.string s, .int .u8 (b.toNat : Int)] w (SplitRet w s b) :=
 (l1Split_any s b w hs).mono fun _ _ h => splitRet_of h
/-- the parts of a line -/
def dHead (k : Nat) : ByteArray := dec k ++ ⟨#[32]⟩
def dText (l : ByteArray) : ByteArray := cutB l 35
def dRest (k : Nat) (l : ByteArray) : ByteArray := (dText l).extract (dHead k).size (dText l).size
def dCmd (k : Nat) (l : ByteArray) : ByteArray := cutB (dRest k l) 64
def dRep (k : Nat) (l : ByteArray) : ByteArray := (dRest k l).extract ((dCmd k l).size + 1) (dRest k l).size
def dPre (k : Nat) (l : ByteArray) : Bool := decide ((dHead k).size ≤ (dText l).size) && decide ((dText l).extract 0 (dHead k).size = dHead k)
def dAt (k : Nat) (l : ByteArray) : Bool := dPre k l && decide ((dCmd k l).size ≠ (dRest k l).size)
def dOk (k : Nat) (l : ByteArray) : Bool := dAt k l && recB (dCmd k l) (dRep k l) && decide (lineB k (dCmd k l) (dRep k l) = l ++ ⟨#[10]⟩)
def dC (k : Nat) (l : ByteArray) : ByteArray := if dAt k l = true then dCmd k l else ⟨#[]⟩
def dR (k : Nat) (l : ByteArray) : ByteArray := if dAt k l = true then dRep k l else ⟨#[]⟩
theorem dHead_size (k : Nat) : (dHead k).size ≤ 21 ∧ 1 ≤ (dHead k).size := by
 have := dec_size k
 unfold dHead
 simp [ByteArray.size_append, lit_size]
 omega
theorem extract_size (s : ByteArray) (a b : Nat) (h : b ≤ s.size) : (s.extract a b).size = b - a := by
 rw [ByteArray.size_extract]; omega
theorem cut_lt {s : ByteArray} {b : UInt8} (h : (cutB s b).size ≠ s.size) : (cutB s b).size < s.size := by
 have := cutB_size s b; omega
theorem toList_eq_iff (a b : ByteArray) : (a.toList = b.toList) ↔ a = b := by
 rw [ByteArray.toList_eq, ByteArray.toList_eq]
 exact ⟨fun h => bl_inj h, fun h => by rw [h]⟩
end Go.Proofs.YtkcbgiegoadkbaaGreat
namespace Go.Proofs.YtkcbgiegoadkbaaGreat
open Go.RowKit
set_option linter.unusedVariables false
set_option linter.unusedSimpArgs false
set_option maxHeartbeats 400000 in
theorem dec_short (k : Nat) (l T D : ByteArray) (w : World) (hk : k ≤ 59) (hl : l.size ≤ 6000000) (hD : Hid (dec k = D)) (zD : D.size ≤ 20) (hT : Hid (cutB l 35 = T)) (zT : T.size ≤ l.size) (q1 : (T.size : Int) < (D.size : Int) + 1) :
 Calls Tryz.prog 68 #[.int .i64 k, .string l] w fun e w' => e = .returned (.tuple #[recV ⟨#[]⟩ ⟨#[]⟩, .bool false]) ∧ Below w.heap.size w w' := by
 have HT := Lib.hid (fun w => text_any (k : Int) w (by omega) (by omega))
 rw [decI_nat, hD.out] at HT
 go_enter Tryz.func68, Tryz.ntmps68
 go_wp2_with (go_at_call 62; refine (HT.out _).mono ?_; rintro e w' ⟨rfl, hb1⟩; obtain ⟨hc1, hf1⟩ := bcell hb1; have hz1 : w.heap.size < w'.heap.size := by (have := (hb1).size; (try simp at this); omega))
 refine (split_ret l 35 _ (by omega)).mono ?_
 rintro e w' ⟨g, c, rfl, hcell, ho1, ho2, hb2⟩
 rw [show cutB l 35 = T from hT.out] at hcell
 obtain ⟨hc2, hf2⟩ := bcell hb2; have hz2 : w.heap.size < w'.heap.size := by (have := (hb2).size; (try simp at this); omega)
 go_wp2_with fail
 refine bodyPost_ret (v := .tuple #[recV ⟨#[]⟩ ⟨#[]⟩, .bool false]) (by simp [results, Tryz.results68, go_sem, hc1, hc2, hz1, hz2]) rfl ⟨rfl, (by repeat (first | exact ext_refl _ | assumption | refine ext_alloc ?_ _ | refine ext_drew ?_ | refine ext_drewN ?_ _ | refine ext_set ?_ (by simp <;> omega) _ | refine ext_trans ?_ (by assumption)))⟩
set_option maxHeartbeats 400000 in
theorem dec_head (k : Nat) (l T D : ByteArray) (w : World) (hk : k ≤ 59) (hl : l.size ≤ 6000000) (hD : Hid (dec k = D)) (zD : D.size ≤ 20) (hT : Hid (cutB l 35 = T)) (zT : T.size ≤ l.size) (q1 : (D.size : Int) + 1 ≤ (T.size : Int)) (q2 : ((T.extract 0 (D.size + 1)).toList == (D ++ ⟨#[32]⟩).toList) = false) :
 Calls Tryz.prog 68 #[.int .i64 k, .string l] w fun e w' => e = .returned (.tuple #[recV ⟨#[]⟩ ⟨#[]⟩, .bool false]) ∧ Below w.heap.size w w' := by
 have HT := Lib.hid (fun w => text_any (k : Int) w (by omega) (by omega))
 rw [decI_nat, hD.out] at HT
 go_enter Tryz.func68, Tryz.ntmps68
 go_wp2_with (go_at_call 62; refine (HT.out _).mono ?_; rintro e w' ⟨rfl, hb1⟩; obtain ⟨hc1, hf1⟩ := bcell hb1; have hz1 : w.heap.size < w'.heap.size := by (have := (hb1).size; (try simp at this); omega))
 refine (split_ret l 35 _ (by omega)).mono ?_
 rintro e w' ⟨g, c, rfl, hcell, ho1, ho2, hb2⟩
 rw [show cutB l 35 = T from hT.out] at hcell
 obtain ⟨hc2, hf2⟩ := bcell hb2; have hz2 : w.heap.size < w'.heap.size := by (have := (hb2).size; (try simp at this); omega)
 go_wp2_with fail
 refine bodyPost_ret (v := .tuple #[recV ⟨#[]⟩ ⟨#[]⟩, .bool false]) (by simp [results, Tryz.results68, go_sem, hc1, hc2, hz1, hz2]) rfl ⟨rfl, (by repeat (first | exact ext_refl _ | assumption | refine ext_alloc ?_ _ | refine ext_drew ?_ | refine ext_drewN ?_ _ | refine ext_set ?_ (by simp <;> omega) _ | refine ext_trans ?_ (by assumption)))⟩
set_option maxHeartbeats 1000000 in
theorem dec_noat (k : Nat) (l T D R C : ByteArray) (w : World) (hk : k ≤ 59) (hl : l.size ≤ 6000000) (hD : Hid (dec k = D)) (zD : D.size ≤ 20) (hT : Hid (cutB l 35 = T)) (zT : T.size ≤ l.size) (q1 : (D.size : Int) + 1 ≤ (T.size : Int)) (q2 : ((T.extract 0 (D.size + 1)).toList == (D ++ ⟨#[32]⟩).toList) = true) (hR : Hid (T.extract (D.size + 1) T.size = R)) (zR : R.size ≤ l.size) (hC : Hid (cutB R 64 = C)) (zC : C.size ≤ R.size) (q3 : ((C.size : Int) == (R.size : Int)) = true) :
 Calls Tryz.prog 68 #[.int .i64 k, .string l] w fun e w' => e = .returned (.tuple #[recV ⟨#[]⟩ ⟨#[]⟩, .bool false]) ∧ Below w.heap.size w w' := by
 have HT := Lib.hid (fun w => text_any (k : Int) w (by omega) (by omega))
 rw [decI_nat, hD.out] at HT
 go_enter Tryz.func68, Tryz.ntmps68
 go_wp2_with (go_at_call 62; refine (HT.out _).mono ?_; rintro e w' ⟨rfl, hb1⟩; obtain ⟨hc1, hf1⟩ := bcell hb1; have hz1 : w.heap.size < w'.heap.size := by (have := (hb1).size; (try simp at this); omega))
 refine (split_ret l 35 _ (by omega)).mono ?_
 rintro e w' ⟨g, c, rfl, hcell, ho1, ho2, hb2⟩
 rw [show cutB l 35 = T from hT.out] at hcell
 obtain ⟨hc2, hf2⟩ := bcell hb2; have hz2 : w.heap.size < w'.heap.size := by (have := (hb2).size; (try simp at this); omega)
 go_wp2_with fail
 rw [hR.out]
 refine (split_ret R 64 _ (by omega)).mono ?_
 rintro e w' ⟨g2, c2, rfl, hcell2, ho3, ho4, hb3⟩
 rw [show cutB R 64 = C from hC.out] at hcell2
 obtain ⟨hc3, hf3⟩ := bcell hb3; have hz3 : w.heap.size < w'.heap.size := by (have := (hb3).size; (try simp at this); omega)
 go_wp2_with fail
 refine bodyPost_ret (v := .tuple #[recV ⟨#[]⟩ ⟨#[]⟩, .bool false]) (by simp [results, Tryz.results68, go_sem, hc1, hc2, hc3, hz1, hz2, hz3]) rfl ⟨rfl, (by repeat (first | exact ext_refl _ | assumption | refine ext_alloc ?_ _ | refine ext_drew ?_ | refine ext_drewN ?_ _ | refine ext_set ?_ (by simp <;> omega) _ | refine ext_trans ?_ (by assumption)))⟩
set_option maxHeartbeats 1000000 in
theorem dec_bad (k : Nat) (l T D R C Q : ByteArray) (w : World) (hk : k ≤ 59) (hl : l.size ≤ 6000000) (hD : Hid (dec k = D)) (zD : D.size ≤ 20) (hT : Hid (cutB l 35 = T)) (zT : T.size ≤ l.size) (q1 : (D.size : Int) + 1 ≤ (T.size : Int)) (q2 : ((T.extract 0 (D.size + 1)).toList == (D ++ ⟨#[32]⟩).toList) = true) (hR : Hid (T.extract (D.size + 1) T.size = R)) (zR : R.size ≤ l.size) (hC : Hid (cutB R 64 = C)) (zC : C.size ≤ R.size) (q3 : ((C.size : Int) == (R.size : Int)) = false) (q4 : (C.size : Int) + 1 ≤ (R.size : Int)) (hQ : Hid (R.extract (C.size + 1) R.size = Q)) (zQ : Q.size ≤ l.size) (hbad : recB C Q = false) :
 Calls Tryz.prog 68 #[.int .i64 k, .string l] w fun e w' => e = .returned (.tuple #[recV C Q, .bool false]) ∧ Below w.heap.size w w' := by
 have HT := Lib.hid (fun w => text_any (k : Int) w (by omega) (by omega))
 rw [decI_nat, hD.out] at HT
 have HE := Lib.hid (fun w => implEncode_any (k : Int) C Q w (by omega) (by omega) (by omega) (by omega))
 have e3 : encOk (k : Int) C Q = false := by simp [encOk, hbad]
 rw [e3] at HE
 clear e3 hbad
 go_enter Tryz.func68, Tryz.ntmps68
 go_wp2_with (go_at_call 62; refine (HT.out _).mono ?_; rintro e w' ⟨rfl, hb1⟩; obtain ⟨hc1, hf1⟩ := bcell hb1; have hz1 : w.heap.size < w'.heap.size := by (have := (hb1).size; (try simp at this); omega))
 refine (split_ret l 35 _ (by omega)).mono ?_
 rintro e w' ⟨g, c, rfl, hcell, ho1, ho2, hb2⟩
 rw [show cutB l 35 = T from hT.out] at hcell
 obtain ⟨hc2, hf2⟩ := bcell hb2; have hz2 : w.heap.size < w'.heap.size := by (have := (hb2).size; (try simp at this); omega)
 go_wp2_with fail
 rw [hR.out]
 refine (split_ret R 64 _ (by omega)).mono ?_
 rintro e w' ⟨g2, c2, rfl, hcell2, ho3, ho4, hb3⟩
 rw [show cutB R 64 = C from hC.out] at hcell2
 obtain ⟨hc3, hf3⟩ := bcell hb3; have hz3 : w.heap.size < w'.heap.size := by (have := (hb3).size; (try simp at this); omega)
 go_wp2_with fail
 rw [hQ.out]
 refine (HE.out _).mono ?_
 rintro e w' ⟨rfl, hb4⟩
 obtain ⟨hc4, hf4⟩ := bcell hb4; have hz4 : w.heap.size < w'.heap.size := by (have := (hb4).size; (try simp at this); omega)
 have x0 := ext_cell hb4 (ext_cell (ext_alloc (ext_refl _) _) (ext_cell hb3 (ext_cell hb2 (ext_cell hb1 (show (w.alloc (.cells #[.string ⟨#[]⟩, .string ⟨#[]⟩] 60)).cell? ⟨w.heap.size, 0, none⟩ = some (.string ⟨#[]⟩) by rw [World.cell?_alloc_at _ _ _ _ rfl]; rfl)))))
 have x1 := ext_cell hb4 (ext_cell (ext_alloc (ext_refl _) _) (ext_cell hb3 (ext_cell hb2 (ext_cell hb1 (show (w.alloc (.cells #[.string ⟨#[]⟩, .string ⟨#[]⟩] 60)).cell? ⟨w.heap.size, 1, none⟩ = some (.string ⟨#[]⟩) by rw [World.cell?_alloc_at _ _ _ _ rfl]; rfl)))))
 go_wp2_with fail
 refine bodyPost_ret (v := .tuple #[recV C Q, .bool false]) (by simp [results, Tryz.results68, go_sem, x0, x1]) rfl ⟨rfl, (by repeat (first | exact ext_refl _ | assumption | refine ext_alloc ?_ _ | refine ext_drew ?_ | refine ext_drewN ?_ _ | refine ext_set ?_ (by simp <;> omega) _ | refine ext_trans ?_ (by assumption)))⟩
set_option maxHeartbeats 1000000 in
theorem dec_good (k : Nat) (l T D R C Q : ByteArray) (w : World) (hk : k ≤ 59) (hl : l.size ≤ 6000000) (hD : Hid (dec k = D)) (zD : D.size ≤ 20) (hT : Hid (cutB l 35 = T)) (zT : T.size ≤ l.size) (q1 : (D.size : Int) + 1 ≤ (T.size : Int)) (q2 : ((T.extract 0 (D.size + 1)).toList == (D ++ ⟨#[32]⟩).toList) = true) (hR : Hid (T.extract (D.size + 1) T.size = R)) (zR : R.size ≤ l.size) (hC : Hid (cutB R 64 = C)) (zC : C.size ≤ R.size) (q3 : ((C.size : Int) == (R.size : Int)) = false) (q4 : (C.size : Int) + 1 ≤ (R.size : Int)) (hQ : Hid (R.extract (C.size + 1) R.size = Q)) (zQ : Q.size ≤ l.size) (hgood : recB C Q = true) :
 Calls Tryz.prog 68 #[.int .i64 k, .string l] w fun e w' => e = .returned (.tuple #[recV C Q, .bool (decide (lineB (k : Int) C Q = l ++ ⟨#[10]⟩))]) ∧ Below w.heap.size w w' := by
 have HT := Lib.hid (fun w => text_any (k : Int) w (by omega) (by omega))
 rw [decI_nat, hD.out] at HT
 have HE := Lib.hid (fun w => implEncode_any (k : Int) C Q w (by omega) (by omega) (by omega) (by omega))
 have e3 : encOk (k : Int) C Q = true := by
  have : decide (0 ≤ (k : Int) ∧ (k : Int) ≤ 59) = true := by simp; omega
  rw [encOk, this, hgood]; rfl
 have e4 : encB (k : Int) C Q = lineB (k : Int) C Q := by simp [encB, e3]
 rw [e3, e4] at HE
 clear e3 e4 hgood
 have zL := lineB_size (k : Int) C Q
 obtain ⟨X, hX⟩ : ∃ X, lineB (k : Int) C Q = X := ⟨_, rfl⟩
 rw [hX] at HE zL ⊢
 clear hX
 have eq1 : (X.toList == (l ++ ⟨#[10]⟩).toList) = decide (X = l ++ ⟨#[10]⟩) := by
  rw [Bool.eq_iff_iff, beq_iff_eq, decide_eq_true_iff, toList_eq_iff]
 have EQ := Lib.hid eq1
 clear eq1
 go_enter Tryz.func68, Tryz.ntmps68
 go_wp2_with (go_at_call 62; refine (HT.out _).mono ?_; rintro e w' ⟨rfl, hb1⟩; obtain ⟨hc1, hf1⟩ := bcell hb1; have hz1 : w.heap.size < w'.heap.size := by (have := (hb1).size; (try simp at this); omega))
 refine (split_ret l 35 _ (by omega)).mono ?_
 rintro e w' ⟨g, c, rfl, hcell, ho1, ho2, hb2⟩
 rw [show cutB l 35 = T from hT.out] at hcell
 obtain ⟨hc2, hf2⟩ := bcell hb2; have hz2 : w.heap.size < w'.heap.size := by (have := (hb2).size; (try simp at this); omega)
 go_wp2_with fail
 rw [hR.out]
 refine (split_ret R 64 _ (by omega)).mono ?_
 rintro e w' ⟨g2, c2, rfl, hcell2, ho3, ho4, hb3⟩
 rw [show cutB R 64 = C from hC.out] at hcell2
 obtain ⟨hc3, hf3⟩ := bcell hb3; have hz3 : w.heap.size < w'.heap.size := by (have := (hb3).size; (try simp at this); omega)
 go_wp2_with fail
 rw [hQ.out]
 refine (HE.out _).mono ?_
 rintro e w' ⟨rfl, hb4⟩
 obtain ⟨hc4, hf4⟩ := bcell hb4; have hz4 : w.heap.size < w'.heap.size := by (have := (hb4).size; (try simp at this); omega)
 have x0 := ext_cell hb4 (ext_cell (ext_alloc (ext_refl _) _) (ext_cell hb3 (ext_cell hb2 (ext_cell hb1 (show (w.alloc (.cells #[.string ⟨#[]⟩, .string ⟨#[]⟩] 60)).cell? ⟨w.heap.size, 0, none⟩ = some (.string ⟨#[]⟩) by rw [World.cell?_alloc_at _ _ _ _ rfl]; rfl)))))
 have x1 := ext_cell hb4 (ext_cell (ext_alloc (ext_refl _) _) (ext_cell hb3 (ext_cell hb2 (ext_cell hb1 (show (w.alloc (.cells #[.string ⟨#[]⟩, .string ⟨#[]⟩] 60)).cell? ⟨w.heap.size, 1, none⟩ = some (.string ⟨#[]⟩) by rw [World.cell?_alloc_at _ _ _ _ rfl]; rfl)))))
 go_wp2_with fail
 rw [← EQ.out]
 refine bodyPost_ret (v := .tuple #[recV C Q, .bool (X.toList == (l ++ ⟨#[10]⟩).toList)]) (by simp [results, Tryz.results68, go_sem, x0, x1]) rfl ⟨rfl, (by repeat (first | exact ext_refl _ | assumption | refine ext_alloc ?_ _ | refine ext_drew ?_ | refine ext_drewN ?_ _ | refine ext_set ?_ (by simp <;> omega) _ | refine ext_trans ?_ (by assumption)))⟩
end Go.Proofs.YtkcbgiegoadkbaaGreat
namespace Go.Proofs.YtkcbgiegoadkbaaGreat
open Go.RowKit
set_option linter.unusedVariables false
set_option linter.unusedSimpArgs false
theorem rowsV_app (a b : List R5) : rowsV (a ++ b) = rowsV a ++ rowsV b := by simp [rowsV]
theorem own_prefix {w : World} {base e n c g i : Nat} {l : List R5} (h : w.ownsRow base e 5 (.slice (some ⟨g, 0, none⟩) n c) n (rowsV l)) (hi : i ≤ n) : w.ownsRow base e 5 (.slice (some ⟨g, 0, none⟩) i c) i (rowsV (l.take i)) := by
 have hl : l.length = n := by have := h.1; rw [rowsV_len] at this; omega
 have hlen : (rowsV (l.take i)).length = i * 5 := by rw [rowsV_len, List.length_take, hl, Nat.min_eq_left hi]
 rcases h.2 with ⟨h', _⟩ | ⟨g', cap', cur, h', hb, hg, hnc, hcm, hcs, htake⟩
 · simp at h'
 · simp only [Value.slice.injEq, Option.some.injEq, Addr.mk.injEq, and_true, true_and] at h'
   obtain ⟨rfl, rfl⟩ := h'
   refine ⟨hlen, .inr ⟨g, c, cur, rfl, hb, hg, by omega, hcm, hcs, ?_⟩⟩
   have e1 : rowsV l = rowsV (l.take i) ++ rowsV (l.drop i) := by rw [← rowsV_app, List.take_append_drop]
   have : (cur.toList.take (n * 5)).take (i * 5) = (rowsV l).take (i * 5) := by rw [htake]
   rw [List.take_take, Nat.min_eq_left (by omega)] at this
   rw [this, e1, ← hlen, List.take_left]
theorem rows_drop_cells {w : World} {base e n c g i : Nat} {l : List R5} (h : w.ownsRow base e 5 (.slice (some ⟨g, 0, none⟩) n c) n (rowsV l)) (ad : Addr) (hi : i ≤ n) (had : i < n → ad = ⟨g, i * 5, none⟩) :
 ∀ j u, (rowsV (l.drop i))[j]? = some u → w.cell? (ad.add j) = some u := by
 have hl : l.length = n := by have := h.1; rw [rowsV_len] at this; omega
 intro j u hj
 have hlt := (List.getElem?_eq_some_iff.1 hj).1
 rw [rowsV_len, List.length_drop, hl] at hlt
 have hin : i < n := by omega
 rw [had hin, add_flat, h.cellAt _ (by omega)]
 have e1 : rowsV l = rowsV (l.take i) ++ rowsV (l.drop i) := by rw [← rowsV_app, List.take_append_drop]
 have hlen : (rowsV (l.take i)).length = i * 5 := by rw [rowsV_len, List.length_take, hl, Nat.min_eq_left hi]
 rw [e1, List.getElem?_append_right (by omega), hlen, show i * 5 + j - i * 5 = j from by omega, hj]
theorem rows_erase (l : List R5) (i : Nat) : rowsV (l.take i) ++ rowsV (l.drop (i + 1)) = rowsV (l.eraseIdx i) := by
 rw [List.eraseIdx_eq_take_drop_succ]; simp [rowsV]
set_option maxRecDepth 100000 in
set_option maxHeartbeats 2000000 in
theorem taught_6 (day pa le id v : Int) (g n c base i : Nat) (l : List R5) (r : R5) (w : World) (h : w.ownsRow base 111 5 (.slice (some ⟨g, 0, none⟩) n c) n (rowsV l)) (hr : l[i]? = some r) (hs : stuB r = true) (hday : 0 ≤ day ∧ day ≤ 4000) (hpa : 0 ≤ pa ∧ pa ≤ 9999) (hlf : 0 ≤ le ∧ le ≤ 9999) (hg : g < w.heap.size) (hn : n ≤ 8) :
 Calls Tryz.prog 87 #[schV day (some ⟨g, 0, none⟩) n c pa le, .agg #[.int .i64 6, .int .i64 id, .int .i64 v], .int .i64 i] w (RetT (teach day pa le l i r 6 v) day base (some ⟨g, 0, none⟩) n c w) := by
 obtain ⟨c0, c1, c2, c3, c4⟩ := own_cells h hr
 obtain ⟨q1, q2, q3, q4, q5⟩ := stu_bounds hs
 have hi : i < n := by have := rows_len (Reads.of_own h); have := (List.getElem?_eq_some_iff.1 hr).1; omega
 have f1 := frozen_alloc3 hg (h.frozenAt (i * 5 + 1))
 have f2 := frozen_alloc3 hg (h.frozenAt (i * 5 + 2))
 have f3 := frozen_alloc3 hg (h.frozenAt (i * 5 + 3))
 have f4 := frozen_alloc3 hg (h.frozenAt (i * 5 + 4))
 have c0 := cell_alloc3 c0
 have c1 := cell_alloc3 c1
 have c2 := cell_alloc3 c2
 have c3 := cell_alloc3 c3
 have c4 := cell_alloc3 c4
 have H := Lib.hid h
 have HR := Lib.hid hr
 clear h hr
 have hin : (i : Int) < n := by omega
 have hg3 : g < w.heap.size + 1 + 1 + 1 := by omega
 have hn0 : g ≠ w.heap.size := by omega
 have hle : g ≤ w.heap.size + 1 + 1 := by omega
 have hn1 : g ≠ w.heap.size + 1 := by omega
 have hn2 : g ≠ w.heap.size + 1 + 1 := by omega
 obtain ⟨i0, ji, jz0, jz1, jz2⟩ := info_parts info_stu
 have hle0 := hpa
 by_cases hv : v = 0
 · rw [show teach day pa le l i r 6 v = some (l.eraseIdx i, pa, le + 1) from by simp [teach, hv]]
   subst hv
   have hnc : n ≤ c ∧ c ≤ maxLen := by
    rcases H.out.2 with ⟨h', _⟩ | ⟨g', cap', cur, h', _, _, hnc, hcm, _, _⟩
    · simp at h'
    · simp only [Value.slice.injEq, Option.some.injEq, Addr.mk.injEq, and_true, true_and] at h'
      obtain ⟨rfl, rfl⟩ := h'
      exact ⟨hnc, hcm⟩
   have hi1 : i + 1 ≤ n := hi
   have hi2 : (i : Int) + 1 ≤ n := by omega
   have hi3 : (i : Int) ≤ c := by omega
   have hi4 : i ≤ c := by omega
   have hnc1 := hnc.1
   have hnc2 : (n : Int) ≤ c := by omega
   have hcc : c = i + 1 ∨ ¬ c = i + 1 := by omega
   rcases hcc with rfl | hci
   · go_enter Tryz.func87, Tryz.ntmps87
     go_wp2
     (refine wp_region_later_tail 9 (by kernel_rfl) (by kernel_rfl) ?_; simp only [List.take_succ_cons, List.take_zero, List.drop_succ_cons, List.drop_zero]; (repeat (go_big_quiet_step (fail))); refine wpQuiet_nil ?_; intro w1 hw1; obtain ⟨⟨wl, hbL⟩, hw1'⟩ := hw1; simp only at hw1'; subst hw1'; obtain ⟨hcL, hfL⟩ := bcell hbL)
     have BX : Blk w1 w.heap.size 32 #[.int .i64 day, .slice (some ⟨g, 0, none⟩) n (i + 1), .int .i64 pa, .int .i64 le] := ((Blk.new w _ _).ext (ext_alloc (ext_alloc (ext_refl _) _) _)).ext hbL
     have BR : Blk w1 (w.heap.size + 1 + 1) 32 #[.int .i64 0, .slice none 0 0, .int .i64 0, .int .i64 0] := by
      have := (Blk.new ((w.alloc (.cells #[.int .i64 day, .slice (some ⟨g, 0, none⟩) n (i + 1), .int .i64 pa, .int .i64 le] 32)).alloc (.cells #[.int .i64 6, .int .i64 id, .int .i64 0] 82)) #[.int .i64 0, .slice none 0 0, .int .i64 0, .int .i64 0] 32).ext hbL
      simpa using this
     have BX := Lib.hid BX
     have BR := Lib.hid BR
     have z0 : w.heap.size + 1 + 1 < w1.heap.size := by (have := hbL.size; simp at this; omega)
     have z1 : w.heap.size + 1 < w1.heap.size := by omega
     have z2 : w.heap.size < w1.heap.size := by omega
     have zg : g < w1.heap.size := by omega
     have HB := Lib.hid (ext_trans (ext_alloc (ext_alloc (ext_alloc (ext_refl w) _) _) _) hbL)
     have HBL := Lib.hid hbL
     clear hbL
     have HO := Lib.hid (own_ext H.out HB.out)
     have HP := Lib.hid (own_prefix HO.out (show i ≤ n by omega))
     have HLN : Hid ((rowsV (l.drop (i + 1))).length = (n - (i + 1)) * 5) := Lib.hid (by rw [rowsV_len, List.length_drop, rows_len (Reads.of_own H.out)])
     obtain ⟨x0, x1, x2, x3⟩ := BX.out.q4
     obtain ⟨fx0, fx1, fx2, fx3⟩ := BX.out.z4
     go_wp2
     have hL : (l.eraseIdx i).length = i := by rw [List.length_eraseIdx, rows_len (Reads.of_own H.out), if_pos hi]; omega
     have hB1 := Lib.hid (Gr.of_ext (g := g) HB.out)
     have hE : rowsV (l.eraseIdx i) = rowsV (l.take i) := by
      rw [← rows_erase, List.drop_of_length_le (by rw [rows_len (Reads.of_own H.out)]; omega)]; simp [rowsV]
     refine bodyPost_ret (v := .tuple #[schV day (some ⟨g, 0, none⟩) i (i + 1) pa (le + 1), .bool true]) (by simp [results, Tryz.results87, go_sem, *]) rfl ?_
     unfold RetT
     dsimp only
     rw [hL]
     refine ⟨rfl, ?_, ?_⟩
     · iterate 6 refine own_set_ne ?_ (by show _ ≠ g; simp <;> omega) _
       rw [hE]
       exact HP.out
     · repeat refine only_setCell ?_ (by first | exact .inl rfl | (right; simp <;> omega)) _
       exact hB1.out
   · go_enter Tryz.func87, Tryz.ntmps87
     go_wp2
     (refine wp_region_later_tail 9 (by kernel_rfl) (by kernel_rfl) ?_; simp only [List.take_succ_cons, List.take_zero, List.drop_succ_cons, List.drop_zero]; (repeat (go_big_quiet_step (fail))); refine wpQuiet_nil ?_; intro w1 hw1; obtain ⟨⟨wl, hbL⟩, hw1'⟩ := hw1; simp only at hw1'; subst hw1'; obtain ⟨hcL, hfL⟩ := bcell hbL)
     have BX : Blk w1 w.heap.size 32 #[.int .i64 day, .slice (some ⟨g, 0, none⟩) n _, .int .i64 pa, .int .i64 le] := ((Blk.new w _ _).ext (ext_alloc (ext_alloc (ext_refl _) _) _)).ext hbL
     have BR : Blk w1 (w.heap.size + 1 + 1) 32 #[.int .i64 0, .slice none 0 0, .int .i64 0, .int .i64 0] := by
      have := (Blk.new ((w.alloc (.cells #[.int .i64 day, .slice (some ⟨g, 0, none⟩) n _, .int .i64 pa, .int .i64 le] 32)).alloc (.cells #[.int .i64 6, .int .i64 id, .int .i64 0] 82)) #[.int .i64 0, .slice none 0 0, .int .i64 0, .int .i64 0] 32).ext hbL
      simpa using this
     have BX := Lib.hid BX
     have BR := Lib.hid BR
     have z0 : w.heap.size + 1 + 1 < w1.heap.size := by (have := hbL.size; simp at this; omega)
     have z1 : w.heap.size + 1 < w1.heap.size := by omega
     have z2 : w.heap.size < w1.heap.size := by omega
     have zg : g < w1.heap.size := by omega
     have HB := Lib.hid (ext_trans (ext_alloc (ext_alloc (ext_alloc (ext_refl w) _) _) _) hbL)
     have HBL := Lib.hid hbL
     clear hbL
     have HO := Lib.hid (own_ext H.out HB.out)
     have HP := Lib.hid (own_prefix HO.out (show i ≤ n by omega))
     have HLN : Hid ((rowsV (l.drop (i + 1))).length = (n - (i + 1)) * 5) := Lib.hid (by rw [rowsV_len, List.length_drop, rows_len (Reads.of_own H.out)])
     go_wp2_with (at_builtin; refine wpList_append_fits_any _ rfl (.tmp 22) (.tmp 27) 30 rfl base 111 i0 5 Tryz.underlying30 ji jz1 g i _ (rowsV (l.take i)) rfl HP.out _ _ _ (rowsV (l.drop (i + 1))) rfl HLN.out (by intro e; first | (split at e <;> cases e) | cases e) (fun ad had => rows_drop_cells HO.out ad (by omega) (fun hlt => by have h2 := had; first | omega | (injection h2 with h2; rw [← h2]) | (split at h2 <;> first | omega | (injection h2 with h2; rw [← h2])))) (rows_one _) (by omega) ?_; intro w2 hown2 hg2; have BX2 := BX.out.grown hg2 (by intro e; injection e with e; omega); have BR2 := BR.out.grown hg2 (by intro e; injection e with e; omega); have hown2 := Lib.hid hown2; have hg2 := Lib.hid hg2; obtain ⟨x0, x1, x2, x3⟩ := BX2.q4; obtain ⟨fx0, fx1, fx2, fx3⟩ := BX2.z4; obtain ⟨r0, r1, r2, r3⟩ := BR2.q4; obtain ⟨fr0, fr1, fr2, fr3⟩ := BR2.z4; clear BX2 BR2)
     have hL : (l.eraseIdx i).length = i + (n - (i + 1)) := by rw [List.length_eraseIdx, rows_len (Reads.of_own H.out), if_pos hi]; omega
     have hB1 := Lib.hid (Gr.of_ext (g := g) HB.out)
     refine bodyPost_ret (v := .tuple #[schV day (some ⟨g, 0, none⟩) (i + (n - (i + 1))) c pa (le + 1), .bool true]) (by simp [results, Tryz.results87, go_sem, *]) rfl ?_
     unfold RetT
     dsimp only
     rw [hL]
     refine ⟨rfl, ?_, ?_⟩
     · iterate 6 refine own_set_ne ?_ (by show _ ≠ g; simp <;> omega) _
       have := hown2.out
       rw [rows_erase] at this
       exact this
     · repeat refine only_setCell ?_ (by first | exact .inl rfl | (right; simp <;> omega)) _
       exact Gr.trans hB1.out hg2.out
 · rw [show teach day pa le l i r 6 v = none from by simp [teach, hv]]
   have hv' : (v != 0) = true := by simpa using hv
   clear hv
   go_enter Tryz.func87, Tryz.ntmps87
   go_wp2
   go_wp2
   refine bodyPost_ret (v := .tuple #[schV 0 none 0 0 0 0, .bool false]) (by simp [results, Tryz.results87, go_sem, *]) rfl ⟨rfl, (by repeat (first | exact ext_refl _ | exact HB.out | assumption | refine ext_alloc ?_ _ | refine ext_set ?_ (by simp <;> omega) _ | refine ext_trans ?_ (by assumption)))⟩
end Go.Proofs.YtkcbgiegoadkbaaGreat
namespace Go.Proofs.YtkcbgiegoadkbaaGreat
open Go.RowKit
set_option linter.unusedVariables false
set_option linter.unusedSimpArgs false
theorem run_copy_zero {P : Program} (w : World) (dT sT ty elem : TypeId) (i : TypeInfo) (d a : Option Addr) (dLen dCap sLen sCap : Nat) (hu : P.underlying dT = some (.slice elem)) (hi : P.info? elem = some i) (hn : Nat.min sLen dLen = 0) :
 (Builtin.copy_ #[dT, sT] ty #[.slice d dLen dCap, .slice a sLen sCap]).run P w = .ok (goInt 0) w := by
 have hl : ∀ (x : Addr), (loadCells x 0).run P w = .ok #[] w := fun x => by simpa using run_loadCells_list (P := P) w x [] (by simp)
 cases d <;> cases a <;> simp [Builtin.copy_, run_underlying hu, Builtin.lenOf, Builtin.firstCells, sizeOf, typeInfo, hi, hn, storeCells, hl]
theorem run_copy_rows {P : Program} (w : World) (dT sT ty elem : TypeId) (i : TypeInfo) (size : Nat) (g o dLen dCap : Nat) (a : Addr) (sLen sCap : Nat) (cur : Array Value) (t : TypeId) (cs : List Value)
 (hu : P.underlying dT = some (.slice elem)) (hi : P.info? elem = some i) (hsz : i.size = size)
 (hg : w.heap[g]? = some (.cells cur t (0, 0))) (hn : cs.length = Nat.min sLen dLen * size)
 (hsrc : ∀ j v, cs[j]? = some v → w.cell? (a.add j) = some v) (hfit : o + cs.length ≤ cur.size) (h1 : ∀ v ∈ cs, v.oneCell' = true) :
 (Builtin.copy_ #[dT, sT] ty #[.slice (some ⟨g, o, none⟩) dLen dCap, .slice (some a) sLen sCap]).run P w =
  .ok (goInt (Nat.min sLen dLen)) (w.setRow g (cur.toList.take o ++ cs ++ cur.toList.drop (o + cs.length)).toArray) := by
 have hl := run_loadCells_list (P := P) w a cs hsrc
 have hst := run_storeCells_at P g o t cs 0 cur w hg (by simpa using hfit) h1
 simp [Builtin.copy_, run_underlying hu, Builtin.lenOf, Builtin.firstCells, sizeOf, typeInfo, hi, hsz, ← hn, hl, hst]
theorem own_setRow {w : World} {base e size n c g : Nat} {xs : List Value} {off : Nat} {cs : List Value} (cur : Array Value) (hcur : w.heap[g]? = some (.cells cur e (0, 0)))
 (h : w.ownsRow base e size (.slice (some ⟨g, 0, none⟩) n c) n xs) (hfit : off + cs.length ≤ n * size) :
 (w.setRow g (cur.toList.take off ++ cs ++ cur.toList.drop (off + cs.length)).toArray).ownsRow base e size (.slice (some ⟨g, 0, none⟩) n c) n (splice xs off cs) := by
 rcases h.2 with ⟨h', _⟩ | ⟨g', cap', cur', h', hb, hg, hnc, hcm, hcs, htake⟩
 · simp at h'
 · simp only [Value.slice.injEq, Option.some.injEq, Addr.mk.injEq, and_true, true_and] at h'
   obtain ⟨rfl, rfl⟩ := h'
   rw [hcur] at hg
   injection hg with hg
   injection hg with hg
   subst hg
   have hlen : n * size ≤ cur.size := by rw [hcs]; exact Nat.mul_le_mul_right _ hnc
   refine ⟨by rw [length_splice _ _ _ (by rw [h.1]; exact hfit)]; exact h.1, .inr ⟨g, c, _, rfl, hb, setRow_heap w g cur _ e _ hcur, hnc, hcm, ?_, ?_⟩⟩
   · simp only [List.size_toArray, List.length_append, List.length_take, List.length_drop, Array.length_toList]
     omega
   · rw [← htake]
     unfold splice
     simp only []
     apply List.ext_getElem?
     intro k
     simp only [List.getElem?_take, List.getElem?_append, List.length_append, List.length_take, List.getElem?_drop, Array.length_toList]
     by_cases hk : k < n * size
     · simp only [hk, if_true]
       by_cases h1 : k < off
       · have a1 : k < min off cur.size := by omega
         have a2 : k < min off cur.size + cs.length := by omega
         have a3 : k < min off (min (n * size) cur.size) := by omega
         simp [h1, a1, a2, a3, hk]
       · by_cases h2 : k < off + cs.length
         · have a1 : ¬ k < min off cur.size := by omega
           have a2 : k < min off cur.size + cs.length := by omega
           have a3 : ¬ k < min off (min (n * size) cur.size) := by omega
           have a4 : k - min off (min (n * size) cur.size) < cs.length := by omega
           have a5 : min off (min (n * size) cur.size) = min off cur.size := by omega
           simp [a1, a2, a3, a5]
           omega
         · have a1 : ¬ k < min off cur.size := by omega
           have a2 : ¬ k < min off cur.size + cs.length := by omega
           have a3 : ¬ k < min off (min (n * size) cur.size) := by omega
           have a4 : ¬ k - min off (min (n * size) cur.size) < cs.length := by omega
           have a6 : off + cs.length + (k - (min off cur.size + cs.length)) = k := by omega
           have a7 : off + cs.length + (k - min off (min (n * size) cur.size) - cs.length) = k := by omega
           simp [a2, a3, a4, a6, a7, hk]
     · simp only [hk, if_false]
       have a3 : ¬ k < min off (min (n * size) cur.size) := by omega
       have a4 : ¬ k - min off (min (n * size) cur.size) < cs.length := by omega
       have a7 : ¬ off + cs.length + (k - min off (min (n * size) cur.size) - cs.length) < n * size := by omega
       simp [a3, a4, a7]
theorem wpList_copy_rows {P : Program} {w : World} {ops : Array Oper} {rest : List Oper} {o : Oper} {a : Act} {Q : Exit → Act → World → Prop} (hgd : o.guard = none) (d s : Operand) (dT sT : TypeId)
 (ho : o.op = .call { callee := .builtin .copy, args := #[d, s], argTypes := #[dT, sT] }) (elem : TypeId) (i : TypeInfo) (size : Nat) (hu : P.underlying dT = some (.slice elem)) (hi : P.info? elem = some i) (hsz : i.size = size)
 (dp sp : Option Addr) (dLen dCap sLen sCap : Nat) (hd : a.eval d = .slice dp dLen dCap) (hs : a.eval s = .slice sp sLen sCap)
 (base g n c : Nat) (xs : List Value) (hown : w.ownsRow base elem size (.slice (some ⟨g, 0, none⟩) n c) n xs) (off : Nat) (cs : List Value) (hn : cs.length = Nat.min sLen dLen * size)
 (hpos : 0 < Nat.min sLen dLen → dp = some ⟨g, off, none⟩ ∧ ∃ ad, sp = some ad ∧ ∀ j v, cs[j]? = some v → w.cell? (ad.add j) = some v)
 (hfit : off + cs.length ≤ n * size) (h1 : ∀ v ∈ cs, v.oneCell' = true)
 (h : ∀ w', w'.ownsRow base elem size (.slice (some ⟨g, 0, none⟩) n c) n (splice xs off cs) → w.grownBy w' (some g) → wpList P ops Q rest (a.put o.dst (goInt (Nat.min sLen dLen))) w') :
 wpList P ops Q (o :: rest) a w := by
 by_cases h0 : Nat.min sLen dLen = 0
 · have hcs : cs = [] := List.eq_nil_of_length_eq_zero (by rw [hn, h0]; simp)
   subst hcs
   refine wpList_plain hgd fun K hK => ?_
   have hrun := run_copy_zero (P := P) w dT sT o.type elem i dp sp dLen dCap sLen sCap hu hi h0
   unfold Oper.wp
   simp [execOp, ho, resolve, invoke, builtin, hd, hs, hrun, Result.andThen]
   have := h w (by simpa [splice] using hown) (World.grownBy.refl _ _)
   rw [h0] at this
   exact hK _ _ this
 · obtain ⟨rfl, ad, rfl, hsrc⟩ := hpos (by omega)
   rcases hown.2 with ⟨h', _⟩ | ⟨g', cap', cur, h', hb, hg, hnc, hcm, hcsz, htake⟩
   · simp at h'
   · simp only [Value.slice.injEq, Option.some.injEq, Addr.mk.injEq, and_true, true_and] at h'
     obtain ⟨rfl, rfl⟩ := h'
     have hlen : n * size ≤ cur.size := by rw [hcsz]; exact Nat.mul_le_mul_right _ hnc
     refine wpList_plain hgd fun K hK => ?_
     have hrun := run_copy_rows (P := P) w dT sT o.type elem i size g off dLen dCap ad sLen sCap cur elem cs hu hi hsz hg hn hsrc (by omega) h1
     unfold Oper.wp
     simp only [execOp, ho, resolve, invoke, builtin, hd, hs, hrun, Result.andThen, List.map_toArray, List.map_cons, List.map_nil, Sem.run_bind, Sem.run_pure]
     exact hK _ _ (h _ (own_setRow cur hg hown hfit) ⟨rfl, rfl, rfl, by simp, fun k _ hk => setRow_other w g k _ (fun e => hk (by simp [e]))⟩)
end Go.Proofs.YtkcbgiegoadkbaaGreat
namespace Go.Proofs.YtkcbgiegoadkbaaGreat
open Go.RowKit
set_option linter.unusedVariables false
set_option linter.unusedSimpArgs false
def RetE (o : Option (List R5)) (day pa le : Int) (base : Nat) (v : Value) (w : World) (e : Ending) (w' : World) : Prop :=
 match o with
 | none => e = .returned (.tuple #[schV 0 none 0 0 0 0, .bool false]) ∧ Below w.heap.size w w'
 | some l' => ∃ A c, e = .returned (.tuple #[schV day A l'.length c pa le, .bool true]) ∧ w'.ownsRow base 111 5 (.slice A l'.length c) l'.length (rowsV l') ∧ w.grownBy w' v.ownBlock
def enr (day : Int) (l : List R5) (id v : Int) : Option (List R5) := if 0 ≤ findI l id ∨ inB v 0 5 = false then none else some (insS l id v day)
set_option maxHeartbeats 2000000 in
theorem enrolled_no (day pa le id v : Int) (A : Option Addr) (n c base : Nat) (l : List R5) (w : World) (h : Reads w w.heap.size 5 A n (rowsV l)) (hn : n ≤ 8) (hx : enr day l id v = none) :
 Calls Tryz.prog 85 #[schV day A n c pa le, .agg #[.int .i64 2, .int .i64 id, .int .i64 v]] w fun e w' => e = .returned (.tuple #[schV 0 none 0 0 0 0, .bool false]) ∧ Below w.heap.size w w' := by
 have HA := Lib.hid (fun w h => at_any day pa le id A n c l w (by omega) h)
 have H := Lib.hid h
 have HW := Lib.hid (inB_within v 0 5)
 obtain ⟨z, hz⟩ : ∃ z, findI l id = z := ⟨_, rfl⟩
 unfold enr at hx
 rw [hz] at HA hx
 clear h hz
 by_cases hz0 : 0 ≤ z
 · clear hx
   go_enter Tryz.func85, Tryz.ntmps85
   go_wp2_with fail
   refine (HA.out _ ((H.out.ext (ext_alloc (ext_alloc (ext_alloc (ext_refl _) _) _) _) (Nat.le_refl _)).more (by simp; omega))).mono ?_
   rintro e w1 ⟨rfl, hb1⟩
   obtain ⟨hc1, hf1⟩ := bcell hb1
   have z0 : w.heap.size + 1 + 1 < w1.heap.size := by (have := hb1.size; simp at this; omega)
   have hbw := Lib.hid (ext_trans (ext_alloc (ext_alloc (ext_alloc (ext_refl w) _) _) _) hb1)
   clear hb1
   go_wp2
   refine bodyPost_ret (v := .tuple #[schV 0 none 0 0 0 0, .bool false]) (by simp [results, Tryz.results85, go_sem, *]) rfl ⟨rfl, (by repeat (first | exact hbw.out | refine ext_set ?_ (by simp <;> omega) _))⟩
 · have hv : inB v 0 5 = false := by
    rcases hv : inB v 0 5 with _ | _
    · rfl
    · simp [hz0, hv] at hx
   rw [hv] at HW
   clear hx hv
   go_enter Tryz.func85, Tryz.ntmps85
   go_wp2_with fail
   refine (HA.out _ ((H.out.ext (ext_alloc (ext_alloc (ext_alloc (ext_refl _) _) _) _) (Nat.le_refl _)).more (by simp; omega))).mono ?_
   rintro e w1 ⟨rfl, hb1⟩
   obtain ⟨hc1, hf1⟩ := bcell hb1
   have z0 : w.heap.size + 1 + 1 < w1.heap.size := by (have := hb1.size; simp at this; omega)
   have z1 : w.heap.size + 1 < w1.heap.size := by omega
   have hbw := Lib.hid (ext_trans (ext_alloc (ext_alloc (ext_alloc (ext_refl w) _) _) _) hb1)
   clear hb1
   go_wp2_with (go_at_call 37; refine (HW.out _).mono ?_; rintro e w' ⟨rfl, rfl⟩)
   refine bodyPost_ret (v := .tuple #[schV 0 none 0 0 0 0, .bool false]) (by simp [results, Tryz.results85, go_sem, *]) rfl ⟨rfl, (by repeat (first | exact hbw.out | refine ext_set ?_ (by simp <;> omega) _))⟩
end Go.Proofs.YtkcbgiegoadkbaaGreat
namespace Go.Proofs.YtkcbgiegoadkbaaGreat
open Go.RowKit
set_option linter.unusedVariables false
set_option linter.unusedSimpArgs false
set_option maxHeartbeats 2000000 in
theorem taught_4 (day pa le id v : Int) (g n c base i : Nat) (l : List R5) (r : R5) (w : World) (h : w.ownsRow base 111 5 (.slice (some ⟨g, 0, none⟩) n c) n (rowsV l)) (hr : l[i]? = some r) (hs : stuB r = true) (hday : 0 ≤ day ∧ day ≤ 4000) (hpa : 0 ≤ pa ∧ pa ≤ 9999) (hlf : 0 ≤ le ∧ le ≤ 9999) (hg : g < w.heap.size) (hn : n ≤ 8) :
 Calls Tryz.prog 87 #[schV day (some ⟨g, 0, none⟩) n c pa le, .agg #[.int .i64 4, .int .i64 id, .int .i64 v], .int .i64 i] w (RetT (teach day pa le l i r 4 v) day base (some ⟨g, 0, none⟩) n c w) := by
 obtain ⟨c0, c1, c2, c3, c4⟩ := own_cells h hr
 obtain ⟨q1, q2, q3, q4, q5⟩ := stu_bounds hs
 have hi : i < n := by have := rows_len (Reads.of_own h); have := (List.getElem?_eq_some_iff.1 hr).1; omega
 have f1 := frozen_alloc3 hg (h.frozenAt (i * 5 + 1))
 have f2 := frozen_alloc3 hg (h.frozenAt (i * 5 + 2))
 have f3 := frozen_alloc3 hg (h.frozenAt (i * 5 + 3))
 have f4 := frozen_alloc3 hg (h.frozenAt (i * 5 + 4))
 have c0 := cell_alloc3 c0
 have c1 := cell_alloc3 c1
 have c2 := cell_alloc3 c2
 have c3 := cell_alloc3 c3
 have c4 := cell_alloc3 c4
 have H := Lib.hid h
 have HR := Lib.hid hr
 clear h hr
 have hin : (i : Int) < n := by omega
 have hg3 : g < w.heap.size + 1 + 1 + 1 := by omega
 have hn0 : g ≠ w.heap.size := by omega
 have hle : g ≤ w.heap.size + 1 + 1 := by omega
 have hn1 : g ≠ w.heap.size + 1 := by omega
 have hn2 : g ≠ w.heap.size + 1 + 1 := by omega
 by_cases hd : r.d < day
 · have hd' : decide (r.d < day) = true := by simpa using hd
   rw [show teach day pa le l i r 4 v = none from by simp [teach, hd]]
   go_enter Tryz.func87, Tryz.ntmps87
   go_wp2
   (refine wp_region_later (by kernel_rfl) (by kernel_rfl) ?_; (repeat (go_big_quiet_step (fail))); refine wpQuiet_nil ?_; intro w1 hw1; obtain ⟨⟨wl, hbL⟩, hw1'⟩ := hw1; simp only at hw1'; subst hw1'; obtain ⟨hcL, hfL⟩ := bcell hbL)
   have z0 : w.heap.size + 1 + 1 < w1.heap.size := by (have := hbL.size; simp at this; omega)
   have z1 : w.heap.size + 1 < w1.heap.size := by omega
   have z2 : w.heap.size < w1.heap.size := by omega
   have zg : g < w1.heap.size := by omega
   have HB := Lib.hid (ext_trans (ext_alloc (ext_alloc (ext_alloc (ext_refl w) _) _) _) hbL)
   have HBL := Lib.hid hbL
   clear hbL
   go_wp2
   refine bodyPost_ret (v := .tuple #[schV 0 none 0 0 0 0, .bool false]) (by simp [results, Tryz.results87, go_sem, *]) rfl ⟨rfl, (by repeat (first | exact ext_refl _ | exact HB.out | assumption | refine ext_alloc ?_ _ | refine ext_set ?_ (by simp <;> omega) _ | refine ext_trans ?_ (by assumption)))⟩
 have hd' : decide (r.d < day) = false := by simpa using hd
 by_cases hb : r.b = 10
 · have hb' : (r.b == 10) = true := by simpa using hb
   rw [show teach day pa le l i r 4 v = none from by simp [teach, hb]]
   clear hb
   go_enter Tryz.func87, Tryz.ntmps87
   go_wp2
   (refine wp_region_later (by kernel_rfl) (by kernel_rfl) ?_; (repeat (go_big_quiet_step (fail))); refine wpQuiet_nil ?_; intro w1 hw1; obtain ⟨⟨wl, hbL⟩, hw1'⟩ := hw1; simp only at hw1'; subst hw1'; obtain ⟨hcL, hfL⟩ := bcell hbL)
   have z0 : w.heap.size + 1 + 1 < w1.heap.size := by (have := hbL.size; simp at this; omega)
   have z1 : w.heap.size + 1 < w1.heap.size := by omega
   have z2 : w.heap.size < w1.heap.size := by omega
   have zg : g < w1.heap.size := by omega
   have HB := Lib.hid (ext_trans (ext_alloc (ext_alloc (ext_alloc (ext_refl w) _) _) _) hbL)
   have HBL := Lib.hid hbL
   clear hbL
   go_wp2
   refine bodyPost_ret (v := .tuple #[schV 0 none 0 0 0 0, .bool false]) (by simp [results, Tryz.results87, go_sem, *]) rfl ⟨rfl, (by repeat (first | exact ext_refl _ | exact HB.out | assumption | refine ext_alloc ?_ _ | refine ext_set ?_ (by simp <;> omega) _ | refine ext_trans ?_ (by assumption)))⟩
 have hb' : (r.b == 10) = false := by simpa using hb
 rcases hv : inB v 0 100 with _ | _
 · rw [show teach day pa le l i r 4 v = none from by simp [teach, hv]]
   have HC := Lib.hid (inB_within v 0 100)
   rw [hv] at HC
   clear hv hb
   go_enter Tryz.func87, Tryz.ntmps87
   go_wp2
   (refine wp_region_later (by kernel_rfl) (by kernel_rfl) ?_; (repeat (go_big_quiet_step ((go_at_call 37; exact Calls.later_same (HC.out _))))); refine wpQuiet_nil ?_; intro w1 hw1; obtain ⟨⟨wl, hbL⟩, hw1'⟩ := hw1; simp only at hw1'; subst hw1'; obtain ⟨hcL, hfL⟩ := bcell hbL)
   have z0 : w.heap.size + 1 + 1 < w1.heap.size := by (have := hbL.size; simp at this; omega)
   have z1 : w.heap.size + 1 < w1.heap.size := by omega
   have z2 : w.heap.size < w1.heap.size := by omega
   have zg : g < w1.heap.size := by omega
   have HB := Lib.hid (ext_trans (ext_alloc (ext_alloc (ext_alloc (ext_refl w) _) _) _) hbL)
   have HBL := Lib.hid hbL
   clear hbL
   go_wp2
   refine bodyPost_ret (v := .tuple #[schV 0 none 0 0 0 0, .bool false]) (by simp [results, Tryz.results87, go_sem, *]) rfl ⟨rfl, (by repeat (first | exact ext_refl _ | exact HB.out | assumption | refine ext_alloc ?_ _ | refine ext_set ?_ (by simp <;> omega) _ | refine ext_trans ?_ (by assumption)))⟩
 have HC := Lib.hid (inB_within v 0 100)
 rw [hv] at HC
 obtain ⟨hv0, hv1⟩ := inB_iff.1 hv
 by_cases h70 : 70 ≤ v
 · have h70' : decide (70 ≤ v) = true := by simpa using h70
   by_cases hw : 10 + 5 * r.b ≤ r.c
   · rw [show teach day pa le l i r 4 v = some (l.set i ⟨r.a, r.b + 1, 0, r.d, 0⟩, pa + 1, le) from by simp [teach, hd, hb, hv, h70, hw]]
     clear hb hv
     go_enter Tryz.func87, Tryz.ntmps87
     go_wp2
     (refine wp_region_later (by kernel_rfl) (by kernel_rfl) ?_; (repeat (go_big_quiet_step ((go_at_call 37; exact Calls.later_same (HC.out _))))); refine wpQuiet_nil ?_; intro w1 hw1; obtain ⟨⟨wl, hbL⟩, hw1'⟩ := hw1; simp only at hw1'; subst hw1'; obtain ⟨hcL, hfL⟩ := bcell hbL)
     have z0 : w.heap.size + 1 + 1 < w1.heap.size := by (have := hbL.size; simp at this; omega)
     have z1 : w.heap.size + 1 < w1.heap.size := by omega
     have z2 : w.heap.size < w1.heap.size := by omega
     have zg : g < w1.heap.size := by omega
     have HB := Lib.hid (ext_trans (ext_alloc (ext_alloc (ext_alloc (ext_refl w) _) _) _) hbL)
     have HBL := Lib.hid hbL
     clear hbL
     go_wp2
     (refine wp_region_later (by kernel_rfl) (by kernel_rfl) ?_; (repeat (go_big_quiet_step ((go_at_call 89; exact Calls.later_same (wanted_any _ _ (by omega) (by omega)))))); refine wpQuiet_nil ?_; intro w1 hw1; obtain ⟨⟨wl, hbL⟩, hw1'⟩ := hw1; simp only at hw1'; subst hw1'; obtain ⟨hcL, hfL⟩ := bcell hbL)
     have BX : Blk w1 w.heap.size 32 #[.int .i64 day, .slice (some ⟨g, 0, none⟩) n c, .int .i64 pa, .int .i64 le] := (((Blk.new w _ _).ext (ext_alloc (ext_alloc (ext_refl _) _) _)).ext HBL.out).ext hbL
     obtain ⟨x0, x1, x2, x3⟩ := BX.q4
     obtain ⟨fx0, fx1, fx2, fx3⟩ := BX.z4
     clear BX
     have hx2 : ∀ u1 u2 u3 : Value, (((w1.setCell ⟨g, i * 5 + 1, none⟩ u1).setCell ⟨g, i * 5 + 2, none⟩ u2).setCell ⟨g, i * 5 + 4, none⟩ u3).cell? ⟨w.heap.size, 2, none⟩ = some (.int .i64 pa) := fun u1 u2 u3 => cell_set_far hn0 (cell_set_far hn0 (cell_set_far hn0 x2))
     go_wp2
     have hL : (l.set i ⟨r.a, r.b + 1, 0, r.d, 0⟩).length = n := by rw [List.length_set]; exact rows_len (Reads.of_own H.out)
     refine bodyPost_ret (v := .tuple #[schV day (some ⟨g, 0, none⟩) n c (pa + 1) le, .bool true]) (by simp [results, Tryz.results87, go_sem, *]) rfl ?_
     unfold RetT
     dsimp only
     rw [hL]
     refine ⟨rfl, ?_, ?_⟩
     · rw [rows_setbce HR.out]
       iterate 5 refine own_set_ne ?_ (by show _ ≠ g; simp <;> omega) _
       exact ((((own_ext (own_ext H.out HB.out) hbL).stored _ _).1.stored _ _).1.stored _ _).1
     · repeat refine only_setCell ?_ (by first | exact .inl rfl | (right; simp <;> omega)) _
       exact Gr.of_ext (ext_trans HB.out hbL)
   · rw [show teach day pa le l i r 4 v = some (l.set i ⟨r.a, r.b, r.c, r.d, r.e + 1⟩, pa, le) from by simp [teach, hd, hb, hv, hw]]
     clear hb hv
     go_enter Tryz.func87, Tryz.ntmps87
     go_wp2
     (refine wp_region_later (by kernel_rfl) (by kernel_rfl) ?_; (repeat (go_big_quiet_step ((go_at_call 37; exact Calls.later_same (HC.out _))))); refine wpQuiet_nil ?_; intro w1 hw1; obtain ⟨⟨wl, hbL⟩, hw1'⟩ := hw1; simp only at hw1'; subst hw1'; obtain ⟨hcL, hfL⟩ := bcell hbL)
     have z0 : w.heap.size + 1 + 1 < w1.heap.size := by (have := hbL.size; simp at this; omega)
     have z1 : w.heap.size + 1 < w1.heap.size := by omega
     have z2 : w.heap.size < w1.heap.size := by omega
     have zg : g < w1.heap.size := by omega
     have HB := Lib.hid (ext_trans (ext_alloc (ext_alloc (ext_alloc (ext_refl w) _) _) _) hbL)
     have HBL := Lib.hid hbL
     clear hbL
     go_wp2
     (refine wp_region_later (by kernel_rfl) (by kernel_rfl) ?_; (repeat (go_big_quiet_step ((go_at_call 89; exact Calls.later_same (wanted_any _ _ (by omega) (by omega)))))); refine wpQuiet_nil ?_; intro w1 hw1; obtain ⟨⟨wl, hbL⟩, hw1'⟩ := hw1; simp only at hw1'; subst hw1'; obtain ⟨hcL, hfL⟩ := bcell hbL)
     go_wp2
     have hL : (l.set i ⟨r.a, r.b, r.c, r.d, r.e + 1⟩).length = n := by rw [List.length_set]; exact rows_len (Reads.of_own H.out)
     refine bodyPost_ret (v := .tuple #[schV day (some ⟨g, 0, none⟩) n c pa le, .bool true]) (by simp [results, Tryz.results87, go_sem, *]) rfl ?_
     unfold RetT
     dsimp only
     rw [hL]
     refine ⟨rfl, ?_, ?_⟩
     · rw [rows_sete HR.out]
       iterate 4 refine own_set_ne ?_ (by show _ ≠ g; simp <;> omega) _
       exact ((own_ext (own_ext H.out HB.out) hbL).stored _ _).1
     · repeat refine only_setCell ?_ (by first | exact .inl rfl | (right; simp <;> omega)) _
       exact Gr.of_ext (ext_trans HB.out hbL)
 · have h70' : decide (70 ≤ v) = false := by simpa using h70
   rw [show teach day pa le l i r 4 v = some (l.set i ⟨r.a, r.b, r.c, r.d, r.e + 1⟩, pa, le) from by simp [teach, hd, hb, hv, h70]]
   clear hb hv
   go_enter Tryz.func87, Tryz.ntmps87
   go_wp2
   (refine wp_region_later (by kernel_rfl) (by kernel_rfl) ?_; (repeat (go_big_quiet_step ((go_at_call 37; exact Calls.later_same (HC.out _))))); refine wpQuiet_nil ?_; intro w1 hw1; obtain ⟨⟨wl, hbL⟩, hw1'⟩ := hw1; simp only at hw1'; subst hw1'; obtain ⟨hcL, hfL⟩ := bcell hbL)
   have z0 : w.heap.size + 1 + 1 < w1.heap.size := by (have := hbL.size; simp at this; omega)
   have z1 : w.heap.size + 1 < w1.heap.size := by omega
   have z2 : w.heap.size < w1.heap.size := by omega
   have zg : g < w1.heap.size := by omega
   have HB := Lib.hid (ext_trans (ext_alloc (ext_alloc (ext_alloc (ext_refl w) _) _) _) hbL)
   have HBL := Lib.hid hbL
   clear hbL
   go_wp2
   (refine wp_region_later (by kernel_rfl) (by kernel_rfl) ?_; (repeat (go_big_quiet_step (fail))); refine wpQuiet_nil ?_; intro w1 hw1; obtain ⟨⟨wl, hbL⟩, hw1'⟩ := hw1; simp only at hw1'; subst hw1'; obtain ⟨hcL, hfL⟩ := bcell hbL)
   go_wp2
   have hL : (l.set i ⟨r.a, r.b, r.c, r.d, r.e + 1⟩).length = n := by rw [List.length_set]; exact rows_len (Reads.of_own H.out)
   refine bodyPost_ret (v := .tuple #[schV day (some ⟨g, 0, none⟩) n c pa le, .bool true]) (by simp [results, Tryz.results87, go_sem, *]) rfl ?_
   unfold RetT
   dsimp only
   rw [hL]
   refine ⟨rfl, ?_, ?_⟩
   · rw [rows_sete HR.out]
     iterate 4 refine own_set_ne ?_ (by show _ ≠ g; simp <;> omega) _
     exact ((own_ext (own_ext H.out HB.out) hbL).stored _ _).1
   · repeat refine only_setCell ?_ (by first | exact .inl rfl | (right; simp <;> omega)) _
     exact Gr.of_ext (ext_trans HB.out hbL)
end Go.Proofs.YtkcbgiegoadkbaaGreat
namespace Go.Proofs.YtkcbgiegoadkbaaGreat
open Go.RowKit
set_option linter.unusedVariables false
set_option linter.unusedSimpArgs false
set_option maxHeartbeats 2000000 in
theorem taught_5 (day pa le id v : Int) (g n c base i : Nat) (l : List R5) (r : R5) (w : World) (h : w.ownsRow base 111 5 (.slice (some ⟨g, 0, none⟩) n c) n (rowsV l)) (hr : l[i]? = some r) (hs : stuB r = true) (hday : 0 ≤ day ∧ day ≤ 4000) (hpa : 0 ≤ pa ∧ pa ≤ 9999) (hlf : 0 ≤ le ∧ le ≤ 9999) (hg : g < w.heap.size) (hn : n ≤ 8) :
 Calls Tryz.prog 87 #[schV day (some ⟨g, 0, none⟩) n c pa le, .agg #[.int .i64 5, .int .i64 id, .int .i64 v], .int .i64 i] w (RetT (teach day pa le l i r 5 v) day base (some ⟨g, 0, none⟩) n c w) := by
 obtain ⟨c0, c1, c2, c3, c4⟩ := own_cells h hr
 obtain ⟨q1, q2, q3, q4, q5⟩ := stu_bounds hs
 have hi : i < n := by have := rows_len (Reads.of_own h); have := (List.getElem?_eq_some_iff.1 hr).1; omega
 have f1 := frozen_alloc3 hg (h.frozenAt (i * 5 + 1))
 have f2 := frozen_alloc3 hg (h.frozenAt (i * 5 + 2))
 have f3 := frozen_alloc3 hg (h.frozenAt (i * 5 + 3))
 have f4 := frozen_alloc3 hg (h.frozenAt (i * 5 + 4))
 have c0 := cell_alloc3 c0
 have c1 := cell_alloc3 c1
 have c2 := cell_alloc3 c2
 have c3 := cell_alloc3 c3
 have c4 := cell_alloc3 c4
 have H := Lib.hid h
 have HR := Lib.hid hr
 clear h hr
 have hin : (i : Int) < n := by omega
 have hg3 : g < w.heap.size + 1 + 1 + 1 := by omega
 have hn0 : g ≠ w.heap.size := by omega
 have hle : g ≤ w.heap.size + 1 + 1 := by omega
 have hn1 : g ≠ w.heap.size + 1 := by omega
 have hn2 : g ≠ w.heap.size + 1 + 1 := by omega
 have q4a := q4.1
 rcases hv : inB v 1 365 with _ | _
 · rw [show teach day pa le l i r 5 v = none from by simp [teach, hv]]
   have HC := Lib.hid (inB_within v 1 365)
   rw [hv] at HC
   clear hv
   go_enter Tryz.func87, Tryz.ntmps87
   go_wp2_with (go_at_call 37; refine (HC.out _).mono ?_; rintro e w' ⟨rfl, rfl⟩)
   go_wp2
   refine bodyPost_ret (v := .tuple #[schV 0 none 0 0 0 0, .bool false]) (by simp [results, Tryz.results87, go_sem, *]) rfl ⟨rfl, (by repeat (first | exact ext_refl _ | exact HB.out | assumption | refine ext_alloc ?_ _ | refine ext_set ?_ (by simp <;> omega) _ | refine ext_trans ?_ (by assumption)))⟩
 have HC := Lib.hid (inB_within v 1 365)
 rw [hv] at HC
 obtain ⟨hv0, hv1⟩ := inB_iff.1 hv
 have hx : ∀ M : Int, M = (if day < r.d then r.d else day) → teach day pa le l i r 5 v = some (l.set i ⟨r.a, r.b, r.c, M + v, r.e⟩, pa, le) := fun M hM => by simp [teach, hv, hM]
 by_cases hmx : day ≤ r.d
 · rw [hx r.d (by split <;> omega)]
   clear hv hx
   go_enter Tryz.func87, Tryz.ntmps87
   go_wp2_with (go_at_call 37; refine (HC.out _).mono ?_; rintro e w' ⟨rfl, rfl⟩)
   (refine wp_region_later_tail 13 (by kernel_rfl) (by kernel_rfl) ?_; simp only [List.take_succ_cons, List.take_zero, List.drop_succ_cons, List.drop_zero]; (repeat (go_big_quiet_step (fail))); refine wpQuiet_nil ?_; intro w1 hw1; obtain ⟨⟨wl, hbL⟩, hw1'⟩ := hw1; simp only at hw1'; subst hw1'; obtain ⟨hcL, hfL⟩ := bcell hbL)
   go_wp2
   have hL : (l.set i ⟨r.a, r.b, r.c, r.d + v, r.e⟩).length = n := by rw [List.length_set]; exact rows_len (Reads.of_own H.out)
   refine bodyPost_ret (v := .tuple #[schV day (some ⟨g, 0, none⟩) n c pa le, .bool true]) (by simp [results, Tryz.results87, go_sem, *]) rfl ?_
   unfold RetT
   dsimp only
   rw [hL]
   refine ⟨rfl, ?_, ?_⟩
   · rw [rows_setd HR.out]
     iterate 4 refine own_set_ne ?_ (by show _ ≠ g; simp <;> omega) _
     exact ((own_ext H.out (ext_trans (ext_alloc (ext_alloc (ext_alloc (ext_refl w) _) _) _) hbL)).stored _ _).1
   · repeat refine only_setCell ?_ (by first | exact .inl rfl | (right; simp <;> omega)) _
     exact Gr.of_ext (ext_trans (ext_alloc (ext_alloc (ext_alloc (ext_refl w) _) _) _) hbL)
 · rw [hx day (by split <;> omega)]
   clear hv hx
   go_enter Tryz.func87, Tryz.ntmps87
   go_wp2_with (go_at_call 37; refine (HC.out _).mono ?_; rintro e w' ⟨rfl, rfl⟩)
   (refine wp_region_later_tail 13 (by kernel_rfl) (by kernel_rfl) ?_; simp only [List.take_succ_cons, List.take_zero, List.drop_succ_cons, List.drop_zero]; (repeat (go_big_quiet_step (fail))); refine wpQuiet_nil ?_; intro w1 hw1; obtain ⟨⟨wl, hbL⟩, hw1'⟩ := hw1; simp only at hw1'; subst hw1'; obtain ⟨hcL, hfL⟩ := bcell hbL)
   go_wp2
   have hL : (l.set i ⟨r.a, r.b, r.c, day + v, r.e⟩).length = n := by rw [List.length_set]; exact rows_len (Reads.of_own H.out)
   refine bodyPost_ret (v := .tuple #[schV day (some ⟨g, 0, none⟩) n c pa le, .bool true]) (by simp [results, Tryz.results87, go_sem, *]) rfl ?_
   unfold RetT
   dsimp only
   rw [hL]
   refine ⟨rfl, ?_, ?_⟩
   · rw [rows_setd HR.out]
     iterate 4 refine own_set_ne ?_ (by show _ ≠ g; simp <;> omega) _
     exact ((own_ext H.out (ext_trans (ext_alloc (ext_alloc (ext_alloc (ext_refl w) _) _) _) hbL)).stored _ _).1
   · repeat refine only_setCell ?_ (by first | exact .inl rfl | (right; simp <;> omega)) _
     exact Gr.of_ext (ext_trans (ext_alloc (ext_alloc (ext_alloc (ext_refl w) _) _) _) hbL)
end Go.Proofs.YtkcbgiegoadkbaaGreat
namespace Go.Proofs.YtkcbgiegoadkbaaGreat
open Go.RowKit
set_option linter.unusedVariables false
set_option linter.unusedSimpArgs false
theorem of_any (g a : Nat) (A : Option Addr) (n c M : Nat) (w : World) (h : CurAt w g a) (ha : a ≤ 900000000000) (hn : n ≤ 65536) (hpos : 0 < n) (hl : AllAt w g A n (StrLe M)) :
 Calls Tryz.prog 47 #[.pointer (some ⟨g, 0, none⟩), .slice A n c] w (DrawStr g a 2 M w) := by
 go_enter Tryz.func47, Tryz.ntmps47
 go_wp2_with fail
 refine (pick_any g a n _ h ha hn (by omega)).mono ?_
 rintro e w1 ⟨z1, a1, rfl, z10, z11, ha1, hc1, hg1⟩
 obtain ⟨k, rfl⟩ := Int.eq_ofNat_of_zero_le z10
 obtain ⟨b, o, rfl, hne, hc⟩ := hl.gr hg1
 obtain ⟨u, hu, x, rfl, hx0⟩ := hc k (by omega)
 clear hc hl
 have hk : (k : Int) < n := by omega
 go_wp2
 go_ret
 exact ⟨x, a1, rfl, hx0, ha1, hc1, hg1⟩
theorem ext_le (s : ByteArray) (a b : Nat) (h : b ≤ s.size) : (s.extract a b).size ≤ s.size := by rw [extract_size _ _ _ h]; omega
set_option maxHeartbeats 1000000 in
theorem spoilt_any (g a : Nat) (t v : ByteArray) (w : World) (h : CurAt w g a) (ha : a ≤ 800000000000) (ht : t.size ≤ 60000) (hv : v.size ≤ 60000) (hv1 : 1 ≤ v.size) :
 Calls Tryz.prog 81 #[.pointer (some ⟨g, 0, none⟩), .string t, .string v] w (DrawStr g a 6 (t.size + 1) w) := by
 have hv1' : (1 : Int) ≤ v.size := by omega
 by_cases h0 : t.size = 0
 · have ht0 : t.toList = [] := (toList_nil t).2 h0
   have hz : (v.extract 0 1).size = 1 := by rw [extract_size _ _ _ hv1]
   go_enter Tryz.func81, Tryz.ntmps81
   go_wp2
   go_ret
   exact ⟨_, a, rfl, by omega, by omega, h, Gr.of_ext (ext_refl _)⟩
 · have ht0 : t.toList.isEmpty = false := by
    rw [List.isEmpty_eq_false_iff]
    intro e
    exact h0 ((toList_nil t).1 e)
   have ht1 : (t.toList == []) = false := by simpa using ht0
   go_enter Tryz.func81, Tryz.ntmps81
   go_wp2_with fail
   refine (pick_any g a t.size _ h (by omega) (by omega) (by omega)).mono ?_
   rintro e w1 ⟨z1, a1, rfl, z10, z11, ha1, hc1, hg1⟩
   obtain ⟨i, rfl⟩ := Int.eq_ofNat_of_zero_le z10
   have hi : i + 1 ≤ t.size := by omega
   have hi1 : (i : Int) + 1 ≤ t.size := by omega
   have hi2 : (i : Int) ≤ t.size := by omega
   go_wp2_with fail
   refine (pick_any g a1 v.size _ hc1 (by omega) (by omega) (by omega)).mono ?_
   rintro e w2 ⟨z2, a2, rfl, z20, z21, ha2, hc2, hg2⟩
   obtain ⟨j, rfl⟩ := Int.eq_ofNat_of_zero_le z20
   have hj : j + 1 ≤ v.size := by omega
   have hj2 : (j : Int) ≤ v.size := by omega
   have sv : (v.extract j v.size).size = v.size - j := extract_size _ _ _ (Nat.le_refl _)
   have hj3 : 1 ≤ v.size - j := by omega
   go_wp2_with fail
   refine (pick_any g a2 3 _ hc2 (by omega) (by omega) (by omega)).mono ?_
   rintro e w3 ⟨z3, a3, rfl, z30, z31, ha3, hc3, hg3⟩
   have e1 : (t.extract 0 i).size = i := by rw [extract_size _ _ _ (by omega)]; omega
   have e2 : (t.extract i t.size).size = t.size - i := extract_size _ _ _ (Nat.le_refl _)
   have e3 : (t.extract (i + 1) t.size).size = t.size - (i + 1) := extract_size _ _ _ (Nat.le_refl _)
   have e4 : ((v.extract j v.size).extract 0 1).size = 1 := by rw [extract_size _ _ _ (by rw [sv]; exact hj3)]
   have h03 : z3 = 0 ∨ z3 = 1 ∨ z3 = 2 := by omega
   rcases h03 with rfl | rfl | rfl
   all_goals
    go_wp2
    (refine wp_region_later (by kernel_rfl) (by kernel_rfl) ?_; (repeat (go_big_quiet_step (fail))); refine wpQuiet_nil ?_; intro w1 hw1; obtain ⟨⟨wl, hbL⟩, hw1'⟩ := hw1; simp only at hw1'; subst hw1'; obtain ⟨hcL, hfL⟩ := bcell hbL)
    go_wp2
    go_ret
    refine ⟨_, a3, rfl, ?_, by omega, hc3.ext hbL, ((hg1.trans hg2).trans hg3).trans (Gr.of_ext hbL)⟩
    simp only [ByteArray.size_append, e1, e2, e3, e4]
    omega
theorem of_lit (g a M : Nat) (l : List ByteArray) (e : TypeId) (w : World) (h : CurAt w g a) (ha : a ≤ 900000000000) (hl : ∀ s ∈ l, s.size ≤ M) (hn : l.length ≤ 65536) (h0 : 0 < l.length) {n H : Nat} (c : Nat) (hnl : n = l.length) (hH : H = w.heap.size) :
 Calls Tryz.prog 47 #[.pointer (some ⟨g, 0, none⟩), .slice (some ⟨H, 0, none⟩) n c] (w.alloc (.cells (l.map Value.string).toArray e)) (DrawStr g a 2 M w) := by
 subst hnl
 have hA := allAt_lit w g (l.map Value.string) e hH h.lt (StrLe M) (by
  intro u hu
  obtain ⟨s, hs, rfl⟩ := List.mem_map.1 hu
  exact ⟨s, rfl, hl s hs⟩)
 rw [List.length_map] at hA
 refine (of_any g a _ l.length c M _ (h.ext (ext_alloc (ext_refl _) _)) ha hn h0 hA).mono ?_
 rintro e w1 ⟨s1, a1, rfl, hs1, ha1, hc1, hg1⟩
 exact ⟨s1, a1, rfl, hs1, ha1, hc1, (Gr.of_ext (ext_alloc (ext_refl _) _)).trans hg1⟩
end Go.Proofs.YtkcbgiegoadkbaaGreat
