/- The words of a script: the program's. -/
import Derived.Test.YtihljhikhplegaaVRuA
import Derived.Test.YtihljhikhplegaaVM1
namespace Go.Proofs.Ytihljhikhplegaa
open Go.RowKit
set_option linter.unusedVariables false
set_option linter.unusedSimpArgs false
theorem lit_iff (s : ByteArray) (L : List UInt8) : (s.toList == L) = decide (bl s = L) := by
 rw [Bool.eq_iff_iff, beq_iff_eq, ByteArray.toList_eq, decide_eq_true_eq]
 exact Iff.rfl
def RW.cells (r : RW) : List Value := [.int .i64 (r.times : Int), .int .u8 (r.what.toNat : Int), .int .i64 (r.digit : Int)]
def rwV (l : List RW) : List Value := l.flatMap RW.cells
theorem rwV_len (l : List RW) : (rwV l).length = l.length * 3 := flat_len RW.cells 3 (fun _ => rfl) l
theorem rwV_app (l m : List RW) : rwV (l ++ m) = rwV l ++ rwV m := by simp [rwV]
theorem rw_at {w : World} {B n : Nat} {A : Option Addr} {l : List RW} (h : Reads w B 3 A n (rwV l)) {k : Nat} {r : RW} (hr : l[k]? = some r) :
 ∃ b o, A = some ⟨b, o, none⟩ ∧ b < B ∧ w.cell? ⟨b, o + k * 3, none⟩ = some (.int .i64 (r.times : Int)) ∧ w.cell? ⟨b, o + k * 3 + 1, none⟩ = some (.int .u8 (r.what.toNat : Int)) ∧ w.cell? ⟨b, o + k * 3 + 2, none⟩ = some (.int .i64 (r.digit : Int)) := by
 have hk : k < l.length := (List.getElem?_eq_some_iff.1 hr).1
 have hn : l.length * 3 = n * 3 := by rw [← rwV_len]; exact h.1
 obtain ⟨b, o, hA, hb, hc⟩ := h.2 (by omega)
 have h0 : (rwV l)[k * 3 + 0]? = some (.int .i64 (r.times : Int)) := flat_get RW.cells 3 (fun _ => rfl) l k 0 r hr (by omega)
 have h1 : (rwV l)[k * 3 + 1]? = some (.int .u8 (r.what.toNat : Int)) := flat_get RW.cells 3 (fun _ => rfl) l k 1 r hr (by omega)
 have h2 : (rwV l)[k * 3 + 2]? = some (.int .i64 (r.digit : Int)) := flat_get RW.cells 3 (fun _ => rfl) l k 2 r hr (by omega)
 exact ⟨b, o, hA, hb, hc _ _ h0, hc _ _ h1, hc _ _ h2⟩
theorem rw_len {w : World} {B n : Nat} {A : Option Addr} {l : List RW} (h : Reads w B 3 A n (rwV l)) : l.length = n := by
 have := h.1; rw [rwV_len] at this; omega
theorem info_rw : (Try.prog.info? 92).map (fun i => (i.zero, i.size, i.bytes)) = some (some (.agg #[.int .i64 0, .int .u8 0, .int .i64 0]), 3, 24) := by kernel_rfl
theorem strs_at {w : World} {B n : Nat} {A : Option Addr} {P : List (List UInt8)} (h : Reads w B 1 A n (strsV P)) {k : Nat} {x : List UInt8} (hx : P[k]? = some x) :
 ∃ b o, A = some ⟨b, o, none⟩ ∧ b < B ∧ w.cell? ⟨b, o + k, none⟩ = some (.string (str x)) := by
 have hk : k < P.length := (List.getElem?_eq_some_iff.1 hx).1
 have hn : P.length = n * 1 := by have := h.1; simpa [strsV] using this
 obtain ⟨b, o, hA, hb, hc⟩ := h.2 (by omega)
 exact ⟨b, o, hA, hb, hc _ _ (by simp [strsV, hx])⟩
theorem strs_len {w : World} {B n : Nat} {A : Option Addr} {P : List (List UInt8)} (h : Reads w B 1 A n (strsV P)) : P.length = n := by
 have := h.1; simpa [strsV] using this
theorem splitL_part (b : UInt8) : ∀ (l x : List UInt8), x ∈ splitL b l → x.length ≤ l.length := by
 intro l
 induction l with
 | nil => intro x hx; simp [splitL] at hx; subst hx; simp
 | cons c l ih =>
   intro x hx
   by_cases hc : c = b
   · subst hc
     rw [splitL_hit] at hx
     rcases List.mem_cons.1 hx with rfl | hx
     · simp
     · have := ih x hx; simp only [List.length_cons]; omega
   · rw [splitL_miss hc] at hx
     unfold glue at hx
     split at hx
     · rename_i e; exact absurd e (splitL_ne b l)
     · rename_i h t e
       rcases List.mem_cons.1 hx with rfl | hx
       · have := ih h (by rw [e]; exact List.mem_cons_self ..)
         simp only [List.length_append, List.length_cons, List.length_nil]
         omega
       · have := ih x (by rw [e]; exact List.mem_cons_of_mem _ hx)
         simp only [List.length_cons]; omega
theorem words_part {s : ByteArray} {x : List UInt8} (h : x ∈ wordsL s) : x.length ≤ s.size := by
 unfold wordsL at h
 split at h
 · cases h
 · have := splitL_part 32 _ x h; rw [bl_size] at this; exact this
theorem str_size (x : List UInt8) : (str x).size = x.length := by rw [← bl_size, bl_str]
def okTo (P : List (List UInt8)) (k : Nat) : Bool := (P.take k).all fun l => (wordO l).isSome
theorem okTo_more {P : List (List UInt8)} {k : Nat} {x : List UInt8} (h : okTo P k = true) (hx : P[k]? = some x) (ho : (wordO x).isSome = true) : okTo P (k + 1) = true := by
 unfold okTo at h ⊢
 rw [List.take_add_one, hx]
 simp [h, ho]
theorem ok_bad {P : List (List UInt8)} {k : Nat} {x : List UInt8} (hx : P[k]? = some x) (ho : wordO x = none) : (P.all fun l => (wordO l).isSome) = false := by
 rw [List.all_eq_false]
 exact ⟨x, List.mem_of_getElem? hx, by simp [ho]⟩
theorem map_more {P : List (List UInt8)} {k : Nat} {x : List UInt8} {r : RW} (hx : P[k]? = some x) (ho : wordO x = some r) : (P.take (k + 1)).map wd = (P.take k).map wd ++ [r] := by
 rw [List.take_add_one, hx]
 simp [wd, ho]
def scrL (s : ByteArray) : List RW := if scrB s = true then rulesL s else []
set_option maxRecDepth 100000 in
set_option maxHeartbeats 2000000 in
theorem rulesOf_any (s : ByteArray) (w : World) (hs : s.size ≤ 16777216) :
 Calls Try.prog 41 #[.string s] w (RetSliceB w 92 3 (scrL s).length (rwV (scrL s)) (scrB s)) := by
 obtain ⟨i0, hi, hz0, hz1, hz2⟩ := info_parts info_rw
 by_cases h80 : 80 < s.size
 · have e : scrB s = false := by unfold scrB; rw [decide_eq_false (by omega)]; rfl
   rw [show scrL s = [] by simp [scrL, e], e]
   clear e
   go_enter Try.func41, Try.ntmps41
   go_wp2
   go_ret2
   exact ⟨none, 0, rfl, World.ownsRow_nil _ _ _ _, ext_refl _⟩
 by_cases h0 : s.size = 0
 · have hw0 : wordsL s = [] := by unfold wordsL; rw [if_pos h0]
   have e : scrB s = true := by unfold scrB; rw [hw0, decide_eq_true (by omega)]; rfl
   have es : s = ⟨#[]⟩ := bl_inj (by rw [(List.length_eq_zero_iff (l := bl s)).1 (by rw [bl_size]; exact h0)]; rfl)
   rw [show scrL s = [] by simp [scrL, e, rulesL, hw0], e]
   subst es
   clear e hw0 h0 h80
   go_enter Try.func41, Try.ntmps41
   go_wp2
   go_ret2
   exact ⟨none, 0, rfl, World.ownsRow_nil _ _ _ _, ext_refl _⟩
 have hwl : wordsL s = splitL 32 (bl s) := by unfold wordsL; rw [if_neg h0]
 have hlen := wordsL_len s
 have hpart := Lib.hid (fun x => @words_part s x)
 have hne : (s.toList == []) = false := by
  rw [lit_iff, decide_eq_false]
  intro e
  have := congrArg List.length e
  rw [bl_size] at this
  exact h0 this
 obtain ⟨P, hP⟩ : ∃ P, wordsL s = P := ⟨_, rfl⟩
 have E := Lib.hid (show scrB s = P.all fun l => (wordO l).isSome by unfold scrB; rw [hP, decide_eq_true (by omega)]; rfl)
 have ER := Lib.hid (show rulesL s = P.map wd by unfold rulesL; rw [hP])
 rw [hP] at hlen hwl hpart
 have HW := Lib.hid hwl
 have HSP := Lib.hid (fun w => split_any s 32 w (by omega))
 rw [← hwl] at HSP
 obtain ⟨L, hL⟩ : ∃ L, L = scrL s := ⟨_, rfl⟩
 obtain ⟨ok, hok⟩ : ∃ ok, ok = scrB s := ⟨_, rfl⟩
 rw [← hL, ← hok]
 have HL := Lib.hid hL
 have HOK := Lib.hid hok
 clear hP hwl hL hok
 go_enter Try.func41, Try.ntmps41
 go_wp2_with fail
 refine (HSP.out _).mono ?_
 rintro e w1 ⟨A1, c1, rfl, ho1, hb1⟩
 have ho1 := Lib.hid ho1
 have hs1 := hb1.size
 have hb1 := Lib.hid hb1
 go_wp2
 go_loopw [4, 17] (fun v i wr => ∃ (k : Nat) (A' : Option Addr) (c' : Nat), k ≤ P.length ∧ i = .int .i64 k ∧ v = .slice A' k c' ∧ Hid (okTo P k = true) ∧ Hid (wr.ownsRow w1.heap.size 92 3 (.slice A' k c') k (rwV ((P.take k).map wd))) ∧ Hid (wr.ownsRow w.heap.size 9 1 (.slice A1 P.length c1) P.length (strsV P)) ∧ Hid (Below w.heap.size w wr) ∧ w1.heap.size ≤ wr.heap.size) (fun _ i _ => P.length - (intOf i).toNat)
 case atStart => exact ⟨0, none, 0, Nat.zero_le _, rfl, rfl, Lib.hid rfl, Lib.hid (World.ownsRow_nil _ _ _ _), ho1, hb1, Nat.le_refl _⟩
 case round =>
  obtain ⟨k, A', c', hk, rfl, rfl, hok, hor, hsr, hbr, hsz⟩ := hrel
  by_cases hlt : k < P.length
  · obtain ⟨x, hx⟩ := list_split (l := P) (k := k) hlt
    obtain ⟨b, o, hA, hbb, c0⟩ := strs_at (Reads.of_own hsr.out) hx
    subst hA
    have hxl := hpart.out x (List.mem_of_getElem? hx)
    have HR := Lib.hid (fun w => readRule_any (str x) w (by rw [str_size]; omega))
    rw [bl_str] at HR
    rcases ho : wordO x with _ | r
    · rw [ho] at HR
      have hbad := Lib.hid (show scrB s = false by rw [E.out]; exact ok_bad hx ho)
      clear hx ho
      go_wp2_with fail
      refine (HR.out _).mono ?_
      rintro e w2 ⟨va, vb, vd, rfl, hb2⟩
      go_wp2
      all_goals
       go_ret2
       rw [HL.out, HOK.out, hbad.out, show scrL s = [] by simp [scrL, hbad.out]]
       exact ⟨none, 0, rfl, World.ownsRow_nil _ _ _ _, by repeat (first | (with_reducible exact ext_trans hbr.out hb2) | (with_reducible refine ext_alloc ?_ _))⟩
    · rw [ho] at HR
      have hmore := Lib.hid (map_more hx ho)
      have hok2 := Lib.hid (okTo_more hok.out hx (by rw [ho]; rfl))
      have m6 : k + 1 ≤ maxLen := by unfold maxLen; omega
      have m7 : (k + 1) * 24 ≤ 140737488355328 := by omega
      clear hx ho
      go_wp2_with fail
      refine (HR.out _).mono ?_
      rintro e w2 ⟨rfl, hb2⟩
      have ho2 := Lib.hid (own_ext hor.out hb2)
      have hs2 := Lib.hid (own_ext hsr.out hb2)
      have hb3 := Lib.hid (ext_trans hbr.out hb2)
      have hz2' := hb2.size
      clear hb2
      go_wp2_with (at_builtin; refine wpList_append_own _ rfl (.tmp 28) (.tmp 30) 71 rfl w1.heap.size 92 i0 _ 3 24 Try.underlying71 hi hz0 hz1 hz2 rfl (by decide) _ _ _ rfl ((ho2.out.alloc _).alloc _) _ 1 1 [.int .i64 (r.times : Int), .int .u8 (r.what.toNat : Int), .int .i64 (r.digit : Int)] rfl rfl (cells_new_at _ [.int .i64 (r.times : Int), .int .u8 (r.what.toNat : Int), .int .i64 (r.digit : Int)] _ (by simp)) (by simp [Value.oneCell']) m6 m7 (by simp; omega) ?_; intro v' w3 hown3 hgrow3 _; obtain ⟨A5, c5, rfl⟩ := own_shape hown3)
      go_roundw
      case rel =>
       have hne3 := own_ne' ((ho1.out)) ((ho2.out.alloc (.cells #[.int .i64 (r.times : Int), .int .u8 (r.what.toNat : Int), .int .i64 (r.digit : Int)] 92)).alloc (.cells #[.int .i64 (r.times : Int), .int .u8 (r.what.toNat : Int), .int .i64 (r.digit : Int)] 92)) (Nat.le_refl _)
       refine ⟨k + 1, A5, c5, by omega, by go_num, rfl, hok2, ?_, Lib.hid (((hs2.out.alloc _).alloc _).kept hgrow3 hne3), Lib.hid ((ext_alloc (ext_alloc hb3.out _) _).trans (below_row ((ho2.out.alloc _).alloc _) hgrow3 (by simp; omega) |>.mono (by omega))), by have := hgrow3.size; simp at this; omega⟩
       rw [hmore.out, rwV_app]
       exact Lib.hid hown3
      case measure => simp [intOf]; omega
  · obtain rfl : k = P.length := by omega
    have hall := Lib.hid (show scrB s = true by rw [E.out]; have := hok.out; unfold okTo at this; rwa [List.take_of_length_le (Nat.le_refl _)] at this)
    have hlist := Lib.hid (show scrL s = P.map wd by unfold scrL; rw [if_pos hall.out, ER.out])
    go_wp2
    go_ret2
    rw [HL.out, HOK.out, hlist.out, hall.out, List.length_map]
    refine ⟨A', c', rfl, ?_, hbr.out⟩
    have := hor.out
    rw [List.take_of_length_le (Nat.le_refl _)] at this
    exact own_base this hb1.out.size
end Go.Proofs.Ytihljhikhplegaa
