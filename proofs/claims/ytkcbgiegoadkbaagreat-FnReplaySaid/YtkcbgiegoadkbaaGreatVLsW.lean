/- join, listed, l28List: numbers with spaces between them. -/
import Derived.Test.YtkcbgiegoadkbaaGreatVRdW
import Derived.Test.YtkcbgiegoadkbaaGreatVM1
namespace Go.Proofs.YtkcbgiegoadkbaaGreat
open Go.RowKit
set_option linter.unusedVariables false
set_option linter.unusedSimpArgs false
/-- the first k texts, put together with another between them -/
def joinTo (sep : ByteArray) (ps : List ByteArray) (k : Nat) : ByteArray := match ps.take k with | [] => ⟨#[]⟩ | p :: r => r.foldl (fun a q => (a ++ sep) ++ q) p
theorem joinTo_zero (sep : ByteArray) (ps : List ByteArray) : joinTo sep ps 0 = ⟨#[]⟩ := by simp [joinTo]
theorem joinTo_one {sep : ByteArray} {ps : List ByteArray} {p : ByteArray} (h : ps[0]? = some p) : joinTo sep ps 1 = p := by
 match ps, h with
 | x :: r, h => simp at h; subst h; simp [joinTo]
theorem joinTo_succ {sep : ByteArray} {ps : List ByteArray} {k : Nat} {p : ByteArray} (h : ps[k]? = some p) (hk : 0 < k) : joinTo sep ps (k + 1) = (joinTo sep ps k ++ sep) ++ p := by
 unfold joinTo
 rw [List.take_add_one, h]
 match ps, k, hk with
 | [], _, _ => simp at h
 | x :: r, k + 1, _ => simp
theorem joinTo_size {sep : ByteArray} {ps : List ByteArray} (hs : sep.size ≤ 100) (hp : ∀ p ∈ ps, p.size ≤ 100) : ∀ k, k ≤ ps.length → (joinTo sep ps k).size ≤ k * 200 := by
 intro k
 induction k with
 | zero => intro _; rw [joinTo_zero]; exact Nat.le_refl _
 | succ k ih =>
   intro hk
   obtain ⟨p, hpk⟩ := list_split (l := ps) (k := k) (by omega)
   have h1 := hp p (List.mem_of_getElem? hpk)
   have h2 := ih (by omega)
   rcases Nat.eq_zero_or_pos k with rfl | hpos
   · rw [joinTo_one hpk]; omega
   · rw [joinTo_succ hpk hpos, ByteArray.size_append, ByteArray.size_append]; omega
def textsV (ps : List ByteArray) : List Value := ps.map Value.string
theorem texts_at {w : World} {B n : Nat} {A : Option Addr} {ps : List ByteArray} (h : Reads w B 1 A n (textsV ps)) {k : Nat} {p : ByteArray} (hp : ps[k]? = some p) :
 ∃ b o, A = some ⟨b, o, none⟩ ∧ b < B ∧ w.cell? ⟨b, o + k, none⟩ = some (.string p) := by
 have hk := (List.getElem?_eq_some_iff.1 hp).1
 have hl : ps.length = n := by have := h.1; simp [textsV] at this; omega
 obtain ⟨b, o, hA, hb, hc⟩ := h.2 (by omega)
 exact ⟨b, o, hA, hb, hc k _ (by simp [textsV, hp])⟩
set_option maxHeartbeats 2000000 in
theorem join_any (A : Option Addr) (n c : Nat) (sep : ByteArray) (ps : List ByteArray) (w : World) (hn : n ≤ 64) (hs : sep.size ≤ 100) (hp : ∀ p ∈ ps, p.size ≤ 100) (h : Reads w w.heap.size 1 A n (textsV ps)) :
 Calls Tryz.prog 88 #[.slice A n c, .string sep] w fun e w' => e = .returned (.string (joinTo sep ps n)) ∧ Below w.heap.size w w' := by
 have hl : ps.length = n := by have := h.1; simp [textsV] at this; omega
 have H := Lib.hid h
 have HL := Lib.hid hl
 have HP := Lib.hid hp
 have HZ := Lib.hid (joinTo_size hs hp)
 clear h hl hp
 go_enter Tryz.func88, Tryz.ntmps88
 go_wp2
 go_loopw [5, 10] (fun v i wr => ∃ (k : Nat) (tx : ByteArray), k ≤ n ∧ i = .int .i64 k ∧ v = .string tx ∧ tx.size ≤ k * 200 ∧ Hid (joinTo sep ps k = tx) ∧ Below w.heap.size w wr) (fun _ i _ => n - (intOf i).toNat)
 case atStart => exact ⟨0, ⟨#[]⟩, Nat.zero_le _, rfl, rfl, Nat.le_refl _, Lib.hid (joinTo_zero _ _), ext_refl _⟩
 case round =>
  obtain ⟨k, tx, hk, rfl, rfl, hTs, hT, hbl⟩ := hrel
  by_cases hlt : k < n
  · obtain ⟨p, hp⟩ := list_split (l := ps) (k := k) (by rw [HL.out]; exact hlt)
    obtain ⟨b, o, rfl, hbb, c0⟩ := texts_at (H.out.ext hbl (Nat.le_refl _)) hp
    have hbw : b < wr.heap.size := Nat.lt_of_lt_of_le hbb hbl.size
    have hps := HP.out p (List.mem_of_getElem? hp)
    have hlt' : (k : Int) < (n : Int) := by omega
    rcases Nat.eq_zero_or_pos k with hk0 | hpos
    · have hnew : Hid (joinTo sep ps (k + 1) = p) := Lib.hid (by rw [hk0] at hp ⊢; exact joinTo_one hp)
      have hTe : tx = ⟨#[]⟩ := by rw [← hT.out, hk0, joinTo_zero]
      have hpos' : decide (0 < k) = false := decide_eq_false (by omega)
      subst hTe
      clear hp hk0
      have hap : Hid ((⟨#[]⟩ : ByteArray) ++ p = p) := Lib.hid (bl_inj (by rw [bl_append]; rfl))
      go_wp2
      go_roundw
      case rel => exact ⟨k + 1, p, by omega, by go_num, by rw [hap.out], by omega, hnew, hbl⟩
      case measure => simp [intOf]; omega
    · have hnew := Lib.hid (joinTo_succ (sep := sep) hp hpos)
      rw [hT.out] at hnew
      have hsz : (tx ++ sep ++ p).size ≤ (k + 1) * 200 := by rw [ByteArray.size_append, ByteArray.size_append]; omega
      clear hp
      have hpos' : decide (0 < k) = true := decide_eq_true hpos
      go_wp2
      go_roundw
      case rel => exact ⟨k + 1, tx ++ sep ++ p, by omega, by go_num, rfl, hsz, hnew, hbl⟩
      case measure => simp [intOf]; omega
  · obtain rfl : k = n := by omega
    go_wp2
    go_ret
    exact ⟨by rw [hT.out]; rfl, hbl⟩
def listT (ns : List Int) : ByteArray := if ns.length = 0 then ⟨#[110, 111, 110, 101]⟩ else joinTo ⟨#[32]⟩ (ns.map decI) ns.length
theorem decI_map (ns : List Int) : ∀ p ∈ ns.map decI, p.size ≤ 100 := by
 intro p hp
 rw [List.mem_map] at hp
 obtain ⟨z, _, rfl⟩ := hp
 have := decI_size z
 omega
def smallI (ns : List Int) : Prop := ∀ z ∈ ns, -9223372036854775807 ≤ z ∧ z ≤ 9223372036854775807
set_option maxHeartbeats 2000000 in
theorem listed_any (A : Option Addr) (n c : Nat) (ns : List Int) (w : World) (hn : n ≤ 64) (hz : smallI ns) (h : Reads w w.heap.size 1 A n (intsV ns)) :
 Calls Tryz.prog 63 #[.slice A n c] w fun e w' => e = .returned (.string (listT ns)) ∧ Below w.heap.size w w' := by
 have hl := ints_len h
 obtain ⟨i0, hi, hz0, hz1, hz2⟩ := info_parts info_str
 by_cases h0 : n = 0
 · have e : listT ns = ⟨#[110, 111, 110, 101]⟩ := by unfold listT; rw [if_pos (by omega)]
   have h0' : ((n : Int) == 0) = true := beq_iff_eq.2 (by omega)
   rw [e]
   clear e h0 h hl
   go_enter Tryz.func63, Tryz.ntmps63
   go_wp2
   go_ret
   exact ⟨rfl, ext_refl _⟩
 have e : listT ns = joinTo ⟨#[32]⟩ (ns.map decI) n := by unfold listT; rw [if_neg (by omega), hl]
 have HE := Lib.hid e
 have h0' : ((n : Int) == 0) = false := beq_eq_false_iff_ne.2 (by omega)
 have H := Lib.hid h
 have HL := Lib.hid hl
 have HZ := Lib.hid hz
 have HJ := Lib.hid (fun (A : Option Addr) (c : Nat) (w : World) h => join_any A n c ⟨#[32]⟩ (ns.map decI) w hn (by decide) (decI_map ns) h)
 clear e h0 h hl hz
 go_enter Tryz.func63, Tryz.ntmps63
 go_wp2
 go_loopw [3, 11] (fun v i wr => ∃ k : Nat, k ≤ n ∧ i = .int .i64 k ∧ Hid (wr.ownsRow w.heap.size 9 1 v k (textsV ((ns.take k).map decI))) ∧ Hid (Below w.heap.size w wr)) (fun _ i _ => n - (intOf i).toNat)
 case atStart => exact ⟨0, Nat.zero_le _, rfl, Lib.hid (World.ownsRow_nil _ _ _ _), Lib.hid (ext_refl _)⟩
 case round =>
  obtain ⟨k, hk, rfl, hown, HB⟩ := hrel
  by_cases hlt : k < n
  · obtain ⟨z, hz⟩ := list_split (l := ns) (k := k) (by rw [HL.out]; exact hlt)
    obtain ⟨b, o, rfl, hbb, c0⟩ := ints_at (H.out.ext HB.out (Nat.le_refl _)) hz
    have hbw : b < wr.heap.size := Nat.lt_of_lt_of_le hbb HB.out.size
    obtain ⟨z1, z2⟩ := HZ.out z (List.mem_of_getElem? hz)
    have hlt' : (k : Int) < (n : Int) := by omega
    have hnew : Hid (textsV ((ns.take (k + 1)).map decI) = textsV ((ns.take k).map decI) ++ [.string (decI z)]) := Lib.hid (by rw [List.take_add_one, hz]; simp [textsV])
    have m1 : k + 1 ≤ maxLen := by unfold maxLen; omega
    have m2 : (k + 1) * 16 ≤ 140737488355328 := by omega
    clear hz
    go_wp2_with fail
    refine (text_any _ _ (by omega) (by omega)).mono ?_
    rintro e w5 ⟨rfl, hb⟩
    have hown5 := Lib.hid (own_ext hown.out hb)
    have HB5 := Lib.hid (ext_trans HB.out hb)
    clear hb c0
    go_wp2_with (at_builtin; refine wpList_append_own _ rfl (.tmp 15) (.tmp 18) 40 rfl w.heap.size 9 i0 _ 1 16 Tryz.underlying40 hi hz0 hz1 hz2 rfl (by decide) _ _ _ rfl (hown5.out.alloc _) _ 1 1 [.string (decI z)] rfl rfl (cell_one_at _ _ _ (by simp)) (by simp [Value.oneCell']) m1 m2 (by have := HB5.out.size; simp; omega) ?_; intro v' w2 hown2 hgrow _)
    go_roundw
    case rel =>
     refine ⟨k + 1, by omega, by go_num, ?_, Lib.hid (below_grown hown5.out (ext_alloc HB5.out _) hgrow)⟩
     refine Lib.hid ?_
     rw [hnew.out]
     exact hown2
    case measure => simp [intOf]; omega
  · obtain rfl : k = n := by omega
    have hown1 := hown.out
    obtain ⟨A', c', rfl⟩ := own_shape hown1
    have hall : Hid (textsV ((ns.take k).map decI) = textsV (ns.map decI)) := Lib.hid (by rw [List.take_of_length_le (by rw [HL.out]; exact Nat.le_refl _)])
    have hrd := Lib.hid (Reads.of_own hown1)
    rw [hall.out] at hrd
    clear hown1
    go_wp2_with (go_at_call 88; refine (HJ.out A' c' _ hrd.out).mono ?_; rintro e w' ⟨rfl, hb⟩)
    go_ret
    exact ⟨by rw [HE.out]; rfl, ext_trans HB.out hb⟩
set_option maxHeartbeats 2000000 in
theorem l28List_any (A : Option Addr) (n c : Nat) (ns : List Int) (ok : Bool) (w : World) (hn : n ≤ 64) (hz : smallI ns) (h : Reads w w.heap.size 1 A n (intsV ns)) :
 Calls Tryz.prog 93 #[.slice A n c, .bool ok] w fun e w' => e = .returned (.string (if ok = true then listT ns else ⟨#[63]⟩)) ∧ Below w.heap.size w w' := by
 have hl := ints_len h
 cases ok
 · rw [if_neg (by simp)]
   clear h hl
   go_enter Tryz.func93, Tryz.ntmps93
   go_wp2
   go_ret
   exact ⟨rfl, ext_refl _⟩
 rw [if_pos rfl]
 by_cases h0 : n = 0
 · have e : listT ns = ⟨#[110, 111, 110, 101]⟩ := by unfold listT; rw [if_pos (by omega)]
   have h0' : ((n : Int) == 0) = true := beq_iff_eq.2 (by omega)
   rw [e]
   clear e h0 h hl
   go_enter Tryz.func93, Tryz.ntmps93
   go_wp2
   go_ret
   exact ⟨rfl, ext_refl _⟩
 have e : listT ns = joinTo ⟨#[32]⟩ (ns.map decI) n := by unfold listT; rw [if_neg (by omega), hl]
 have HE := Lib.hid e
 have h0' : ((n : Int) == 0) = false := beq_eq_false_iff_ne.2 (by omega)
 have hpos : 0 < n := by omega
 have H := Lib.hid h
 have HL := Lib.hid hl
 have HZ := Lib.hid hz
 have HS := Lib.hid (joinTo_size (sep := ⟨#[32]⟩) (by decide) (decI_map ns))
 obtain ⟨z0, hz0⟩ := list_split (l := ns) (k := 0) (by omega)
 obtain ⟨z01, z02⟩ := hz z0 (List.mem_of_getElem? hz0)
 obtain ⟨b, o, rfl, hbb, c0⟩ := ints_at h hz0
 rw [Nat.add_zero] at c0
 have hj1 := Lib.hid (joinTo_one (sep := ⟨#[32]⟩) (ps := ns.map decI) (p := decI z0) (by simp [hz0]))
 have hs0 := decI_size z0
 have hpos2 : (0 : Int) < (n : Int) := by omega
 clear e h0 h hl hz hz0
 go_enter Tryz.func93, Tryz.ntmps93
 go_wp2_with (go_at_call 45; refine (l1Num_any _ _ (by omega) (by omega)).mono ?_; rintro e w1 ⟨rfl, hb1⟩)
 go_loopw [5, 6] (fun v i wr => ∃ (k : Nat) (tx : ByteArray), 1 ≤ k ∧ k ≤ n ∧ i = .int .i64 k ∧ v = .string tx ∧ tx.size ≤ k * 200 ∧ Hid (joinTo ⟨#[32]⟩ (ns.map decI) k = tx) ∧ Below w.heap.size w wr) (fun _ i _ => n - (intOf i).toNat)
 case atStart => exact ⟨1, decI z0, Nat.le_refl _, hpos, rfl, rfl, by omega, hj1, hb1⟩
 case round =>
  obtain ⟨k, tx, hk1, hk, rfl, rfl, hTs, hT, hbl⟩ := hrel
  by_cases hlt : k < n
  · obtain ⟨z, hz⟩ := list_split (l := ns) (k := k) (by rw [HL.out]; exact hlt)
    obtain ⟨b', o', hA, hbb', c1⟩ := ints_at (H.out.ext hbl (Nat.le_refl _)) hz
    injection hA with hA
    injection hA with hA1 hA2
    subst hA1 hA2
    have hbw : b < wr.heap.size := Nat.lt_of_lt_of_le hbb hbl.size
    obtain ⟨z1, z2⟩ := HZ.out z (List.mem_of_getElem? hz)
    have hzs := decI_size z
    have hlt' : (k : Int) < (n : Int) := by omega
    have hnew := Lib.hid (joinTo_succ (sep := ⟨#[32]⟩) (ps := ns.map decI) (k := k) (p := decI z) (by simp [hz]) (by omega))
    rw [hT.out] at hnew
    have hsz : ((tx ++ ⟨#[32]⟩) ++ decI z).size ≤ (k + 1) * 200 := by rw [ByteArray.size_append, ByteArray.size_append]; simp [lit_size]; omega
    clear hz
    go_wp2_with (go_at_call 45; refine (l1Num_any _ _ (by omega) (by omega)).mono ?_; rintro e w5 ⟨rfl, hb⟩)
    go_roundw
    case rel => exact ⟨k + 1, (tx ++ ⟨#[32]⟩) ++ decI z, by omega, by omega, by go_num, rfl, hsz, hnew, ext_trans hbl hb⟩
    case measure => simp [intOf]; omega
  · obtain rfl : k = n := by omega
    go_wp2
    go_ret
    exact ⟨by rw [HE.out, hT.out]; rfl, hbl⟩
end Go.Proofs.YtkcbgiegoadkbaaGreat
