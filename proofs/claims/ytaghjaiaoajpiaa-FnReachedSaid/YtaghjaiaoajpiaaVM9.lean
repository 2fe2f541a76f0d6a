/- What a list that grows in its place leaves: blocks of other types than the list's stay. -/
import Derived.Laws.CopyOwn
import Derived.Test.YtaghjaiaoajpiaaVRcP
import Derived.Test.YtaghjaiaoajpiaaVM3
namespace Go.Proofs.Ytaghjaiaoajpiaa
open Go.RowKit
set_option linter.unusedVariables false
set_option linter.unusedSimpArgs false
/-- all below B is as it was, and so are the blocks whose cells are no numbers -/
def KI (B : Nat) (w w' : World) : Prop := Below B w w' ∧ ∀ b t cs, Blk w b t cs → t ≠ 3 → Blk w' b t cs
theorem KI.refl (B : Nat) (w : World) : KI B w w := ⟨Below.refl _ _, fun _ _ _ h _ => h⟩
theorem KI.trans {B : Nat} {w w1 w2 : World} (h : KI B w w1) (k : KI B w1 w2) : KI B w w2 := ⟨h.1.trans k.1, fun b t cs hb ht => k.2 b t cs (h.2 b t cs hb ht) ht⟩
theorem KI.ext {B : Nat} {w w' : World} (h : Below w.heap.size w w') (hB : B ≤ w.heap.size) : KI B w w' := ⟨Below.mono h hB, fun _ _ _ hb _ => hb.ext h⟩
theorem KI.row {B : Nat} {w w' : World} {n : Nat} {v : Value} {xs : List Value} (hr : w.ownsRow B 3 1 v n xs) (hg : w.grownBy w' v.ownBlock) (hB : B ≤ w.heap.size) : KI B w w' :=
 ⟨below_row hr hg hB, fun _ _ _ hb ht => hb.grownF hg (own_nbT hr hb ht)⟩
theorem KI.own {B : Nat} {w w' : World} (h : KI B w w') {B2 size n : Nat} {e : TypeId} {v : Value} {xs : List Value} (hr : w.ownsRow B2 e size v n xs) (he : e ≠ 3) : w'.ownsRow B2 e size v n xs := by
 refine ⟨hr.1, ?_⟩
 rcases hr.2 with h0 | ⟨g, cap, cur, hv, hb, hh, hrest⟩
 · exact .inl h0
 · exact .inr ⟨g, cap, cur, hv, hb, h.2 g e cur hh he, hrest⟩
theorem KI.blk {B : Nat} {w w' : World} (h : KI B w w') {g : Nat} {t : TypeId} {cs : Array Value} (hb : Blk w g t cs) (ht : t ≠ 3) : Blk w' g t cs := h.2 g t cs hb ht
theorem KI.size {B : Nat} {w w' : World} (h : KI B w w') : w.heap.size ≤ w'.heap.size := h.1.size
/-- rods that stay through all that -/
def Rods (B : Nat) (w : World) (A : Option Addr) (n : Nat) (l : List R2) : Prop := ∀ w', KI B w w' → Reads w' w'.heap.size 2 A n (rowsV2 l)
theorem Rods.ki {B : Nat} {w w' : World} {A : Option Addr} {n : Nat} {l : List R2} (h : Rods B w A n l) (k : KI B w w') : Rods B w' A n l := fun w2 k2 => h w2 (k.trans k2)
theorem Rods.of_reads {w : World} {A : Option Addr} {n : Nat} {l : List R2} (h : Reads w w.heap.size 2 A n (rowsV2 l)) : Rods w.heap.size w A n l := fun w' k => (h.below k.1).more k.size
theorem Rods.of_own {B B2 : Nat} {w : World} {A : Option Addr} {n c : Nat} {l : List R2} (h : w.ownsRow B2 42 2 (.slice A n c) n (rowsV2 l)) : Rods B w A n l := fun w' k => Reads.of_own (k.own h (by decide))
theorem Rods.reads {B : Nat} {w : World} {A : Option Addr} {n : Nat} {l : List R2} (h : Rods B w A n l) : Reads w w.heap.size 2 A n (rowsV2 l) := h w (KI.refl _ _)
/-- the list that comes back -/
def RetList (B : Nat) (w : World) (l : List Int) (e : Ending) (w' : World) : Prop := ∃ A c, e = .returned (.slice A l.length c) ∧ w'.ownsRow B 3 1 (.slice A l.length c) l.length (intsV l) ∧ KI B w w'
theorem intsV_app (l m : List Int) : intsV (l ++ m) = intsV l ++ intsV m := by simp [intsV]
end Go.Proofs.Ytaghjaiaoajpiaa
namespace Go.Proofs.Ytaghjaiaoajpiaa
open Go.RowKit
set_option linter.unusedVariables false
set_option linter.unusedSimpArgs false
set_option maxRecDepth 100000 in
set_option maxHeartbeats 8000000 in
theorem vHas_any (A : Option Addr) (n c : Nat) (l : List Int) (x : Int) (w : World) (hn : n ≤ 1048576) (h : Reads w w.heap.size 1 A n (intsV l)) :
 Calls Try.prog 11 #[.slice A n c, .int .i64 x] w (RetV (.bool (decide (x ∈ l))) w) := by
 have hl := ints_len h
 have H := Lib.hid h
 have HL := Lib.hid hl
 clear h hl
 go_enter Try.func11, Try.ntmps11
 go_wp2
 go_loopw [5] (fun i wr => ∃ k : Nat, k ≤ n ∧ i = .int .i64 k ∧ wr = w ∧ Hid (x ∉ l.take k)) (fun i _ => n - (intOf i).toNat)
 case atStart => exact ⟨0, Nat.zero_le _, rfl, rfl, Lib.hid (by simp)⟩
 case round =>
  obtain ⟨k, hk, rfl, rfl, HX⟩ := hrel
  by_cases hlt : k < n
  · obtain ⟨r, hr⟩ := list_split (l := l) (k := k) (by rw [HL.out]; exact hlt)
    obtain ⟨b, o, rfl, hb, c0⟩ := ints_at H.out hr
    have hk1 : (k : Int) < (n : Int) := by omega
    have hk0 : (0 : Int) ≤ (k : Int) := by omega
    by_cases hx : r = x
    · subst hx
      have hm := Lib.hid (show decide (r ∈ l) = true from decide_eq_true (List.mem_of_getElem? hr))
      clear hr
      go_wp2
      go_ret
      exact ⟨by rw [hm.out]; rfl, ext_refl _⟩
    · have hne : (r == x) = false := by
       rw [beq_eq_false_iff_ne]
       exact hx
      have HX2 := Lib.hid (show x ∉ l.take (k + 1) from by
       rw [List.take_add_one, hr]
       intro hm
       rcases List.mem_append.1 hm with hm | hm
       · exact HX.out hm
       · exact hx (by simpa using (List.mem_singleton.1 (by simpa using hm)).symm))
      clear hr HX
      go_wp2
      go_roundw
      case rel => exact ⟨k + 1, by omega, by go_num, by first | rfl | trivial, HX2⟩
      case measure => simp [intOf]; omega
  · obtain rfl : k = n := by omega
    have hm := Lib.hid (show decide (x ∈ l) = false from decide_eq_false (by have := HX.out; rwa [List.take_of_length_le (by rw [HL.out]; exact Nat.le_refl _)] at this))
    go_wp2
    go_ret
    exact ⟨by rw [hm.out]; rfl, ext_refl _⟩

set_option maxRecDepth 100000 in
set_option maxHeartbeats 8000000 in
theorem l1Has_any (A : Option Addr) (n c : Nat) (l : List Int) (x : Int) (w : World) (hn : n ≤ 1048576) (h : Reads w w.heap.size 1 A n (intsV l)) :
 Calls Try.prog 62 #[.slice A n c, .int .i64 x] w (RetV (.bool (decide (x ∈ l))) w) := by
 have hl := ints_len h
 have H := Lib.hid h
 have HL := Lib.hid hl
 clear h hl
 go_enter Try.func62, Try.ntmps62
 go_wp2
 go_loopw [5] (fun i wr => ∃ k : Nat, k ≤ n ∧ i = .int .i64 k ∧ wr = w ∧ Hid (x ∉ l.take k)) (fun i _ => n - (intOf i).toNat)
 case atStart => exact ⟨0, Nat.zero_le _, rfl, rfl, Lib.hid (by simp)⟩
 case round =>
  obtain ⟨k, hk, rfl, rfl, HX⟩ := hrel
  by_cases hlt : k < n
  · obtain ⟨r, hr⟩ := list_split (l := l) (k := k) (by rw [HL.out]; exact hlt)
    obtain ⟨b, o, rfl, hb, c0⟩ := ints_at H.out hr
    have hk1 : (k : Int) < (n : Int) := by omega
    have hk0 : (0 : Int) ≤ (k : Int) := by omega
    by_cases hx : r = x
    · subst hx
      have hm := Lib.hid (show decide (r ∈ l) = true from decide_eq_true (List.mem_of_getElem? hr))
      clear hr
      go_wp2
      go_ret
      exact ⟨by rw [hm.out]; rfl, ext_refl _⟩
    · have hne : (r == x) = false := by
       rw [beq_eq_false_iff_ne]
       exact hx
      have HX2 := Lib.hid (show x ∉ l.take (k + 1) from by
       rw [List.take_add_one, hr]
       intro hm
       rcases List.mem_append.1 hm with hm | hm
       · exact HX.out hm
       · exact hx (by simpa using (List.mem_singleton.1 (by simpa using hm)).symm))
      clear hr HX
      go_wp2
      go_roundw
      case rel => exact ⟨k + 1, by omega, by go_num, by first | rfl | trivial, HX2⟩
      case measure => simp [intOf]; omega
  · obtain rfl : k = n := by omega
    have hm := Lib.hid (show decide (x ∈ l) = false from decide_eq_false (by have := HX.out; rwa [List.take_of_length_le (by rw [HL.out]; exact Nat.le_refl _)] at this))
    go_wp2
    go_ret
    exact ⟨by rw [hm.out]; rfl, ext_refl _⟩

end Go.Proofs.Ytaghjaiaoajpiaa
namespace Go.Proofs.Ytaghjaiaoajpiaa
open Go.RowKit
set_option linter.unusedVariables false
set_option linter.unusedSimpArgs false
def rchB (u lo : Int) (l : List R2) (m : Int) : Bool := frB u lo l && (decide (l.length ≤ 2) && inB m 0 4)
def rchL (u lo : Int) (l : List R2) (m : Int) : List Int := if rchB u lo l m = true then rS u lo l m else []
theorem frB_mem {u lo : Int} {l : List R2} (h : frB u lo l = true) : ∀ y ∈ l, 0 ≤ y.a ∧ y.a ≤ u ∧ 0 ≤ y.b ∧ y.b ≤ lo := fun y hy => by
 obtain ⟨k, hk⟩ := List.getElem?_of_mem hy
 exact frB_rod h hk
theorem rS_bounds {u lo : Int} (hu : u ≤ 2) (hlo : lo ≤ 5) : ∀ (l : List R2) (m x : Int), l.length ≤ 2 → x ∈ rS u lo l m → 0 ≤ x ∧ x ≤ 15 * (10 * (l.length : Int)) := by
 intro l m x hl hx
 obtain ⟨t, ht, rfl⟩ := (rS_mem u lo l m x).1 hx
 rcases l with _ | ⟨r, l⟩
 · rw [show t = [] from ht]; exact ⟨Int.le_refl _, Int.le_refl _⟩
 · obtain ⟨s, t', rfl, hs, _, ht'⟩ := ht
   rcases l with _ | ⟨r2, l⟩
   · rw [show t' = [] from ht', numR_cons]
     simp only [List.length_nil, pw_zero, numR_nil, List.length_cons]
     omega
   · obtain ⟨s2, t2, rfl, hs2, _, ht2⟩ := ht'
     rcases l with _ | ⟨r3, l⟩
     · rw [show t2 = [] from ht2, numR_cons, numR_cons]
       simp only [List.length_nil, pw_zero, numR_nil, List.length_cons]
       rw [show pw (0 + 1) = 10 by decide]
       omega
     · simp at hl
/-- ascending numbers below a bound are not many -/
theorem asc_len : ∀ (N : Nat) (l : List Int), Asc l → (∀ x ∈ l, 0 ≤ x ∧ x < (N : Int)) → l.length ≤ N := by
 intro N
 induction N with
 | zero =>
   intro l _ h
   cases l with
   | nil => exact Nat.le_refl _
   | cons a l => have := h a (List.mem_cons_self ..); omega
 | succ N ih =>
   intro l hl h
   rcases List.eq_nil_or_concat l with rfl | ⟨l', y, rfl⟩
   · exact Nat.zero_le _
   · rw [List.concat_eq_append] at hl h ⊢
     obtain ⟨h1, _, h3⟩ := List.pairwise_append.1 hl
     have := ih l' h1 fun x hx => by
      have a1 := h x (List.mem_append_left _ hx)
      have a2 := h3 x hx y (by simp)
      have a3 := h y (by simp)
      omega
     simp only [List.length_append, List.length_cons, List.length_nil]
     omega
structure Rch (u lo : Int) (l : List R2) (m : Int) (L : List Int) : Prop where
 fr : frB u lo l = true
 m0 : 0 ≤ m ∧ m ≤ 4
 l2 : l.length ≤ 2
 own : numR l ∈ L
 near : ∀ x ∈ L, 0 ≤ x ∧ x ≤ 300 ∧ (nearW u lo l x).ok = true ∧ (nearW u lo l x).m ≤ m
 next : (decide (numR l + 1 ∈ L)) = ((nearW u lo l (numR l + 1)).ok && decide ((nearW u lo l (numR l + 1)).m ≤ m))
theorem rch_near {u lo : Int} {l : List R2} {m x : Int} (hf : frB u lo l = true) (hm : 0 ≤ m) (hx0 : 0 ≤ x) : x ∈ rS u lo l m ↔ ((nearW u lo l x).ok = true ∧ (nearW u lo l x).m ≤ m) := by
 have hh := frB_head hf
 rw [rS_mem]
 constructor
 · rintro ⟨t, ht, hx⟩
   obtain ⟨e1, e2, e3⟩ := (okT_iff u lo l t m hm).1 ht
   have hin : t ∈ tgP u lo l.length x := (tgP_iff (by omega) (by omega) l.length x t hx0).2 ⟨e1, e2, hx.symm⟩
   have ha : askB u lo l x = true := by unfold askB; rw [hf]; simp [hx0]
   rcases near_is u lo l x with ⟨_, _, h3⟩ | ⟨h1, _, s, hs, h4, h5⟩
   · rw [h3 ha] at hin; cases hin
   · refine ⟨h1, ?_⟩
     have h6 := h5 t hin
     rw [nearP_no rfl rfl] at h6
     rw [h4]
     unfold wayT at h6 ⊢
     dsimp only at h6 ⊢
     omega
 · rintro ⟨h1, h2⟩
   rcases near_is u lo l x with ⟨h3, _⟩ | ⟨_, _, s, hs, h4, _⟩
   · rw [h1] at h3; cases h3
   · obtain ⟨e1, e2, e3⟩ := (tgP_iff (by omega) (by omega) l.length x s hx0).1 hs
     rw [h4] at h2
     exact ⟨s, (okT_iff u lo l s m hm).2 ⟨e1, e2, h2⟩, e3.symm⟩
theorem rch_law {u lo : Int} {l : List R2} {m : Int} (h : rchB u lo l m = true) : Rch u lo l m (rchL u lo l m) := by
 rw [show rchL u lo l m = rS u lo l m from if_pos h]
 unfold rchB at h
 rw [Bool.and_eq_true, Bool.and_eq_true, decide_eq_true_eq, inB_iff] at h
 obtain ⟨hf, hl, hm⟩ := h
 have hh := frB_head hf
 have hn := numR_bounds hf l.length
 rw [List.take_of_length_le (Nat.le_refl _)] at hn
 refine ⟨hf, hm, hl, (rS_mem u lo l m _).2 ⟨l, okT_self l m (frB_mem hf) hm.1, rfl⟩, fun x hx => ?_, ?_⟩
 · have hb := rS_bounds (u := u) (lo := lo) (by omega) (by omega) l m x hl hx
   exact ⟨hb.1, by omega, (rch_near hf hm.1 hb.1).1 hx⟩
 · have := rch_near (x := numR l + 1) hf hm.1 (by omega)
   rw [Bool.eq_iff_iff]
   simp only [Bool.and_eq_true, decide_eq_true_eq]
   exact this
theorem rchL_len (u lo : Int) (l : List R2) (m : Int) : (rchL u lo l m).length ≤ 301 := by
 unfold rchL
 split
 · rename_i h
   unfold rchB at h
   rw [Bool.and_eq_true, Bool.and_eq_true, decide_eq_true_eq, inB_iff] at h
   obtain ⟨hf, hl, hm⟩ := h
   have hh := frB_head hf
   refine asc_len 301 _ (rS_asc u lo l m) fun x hx => ?_
   have hb := rS_bounds (u := u) (lo := lo) (by omega) (by omega) l m x hl hx
   omega
 · exact Nat.zero_le _
end Go.Proofs.Ytaghjaiaoajpiaa
