/- join, listed, l28List: numbers with spaces between them. -/
import Derived.Test.YtclihlihaigddaaVRdW
import Derived.Test.YtclihlihaigddaaVM1
import Derived.Test.YtclihlihaigddaaVM4
import Derived.Test.YtclihlihaigddaaVScVc
namespace Go.Proofs.Ytclihlihaigddaa
open Go.RowKit
set_option linter.unusedVariables false
set_option linter.unusedSimpArgs false
/-- the first k texts, put together with another between them -/
def joinTo (sep : ByteArray) (ps : List ByteArray) (k : Nat) : ByteArray := match ps.take k with | [] => ⟨#[]⟩ | p :: r => r.foldl (fun a q => (a ++ sep) ++ q) p
theorem joinTo_zero (sep : ByteArray) (ps : List ByteArray) : joinTo sep ps 0 = ⟨#[]⟩ := by simp [joinTo]
theorem joinTo_one {sep : ByteArray} {ps : List ByteArray} {p : ByteArray} (h : ps[0]? = some p) : joinTo sep ps 1 = p := by
  match ps, h with
  | x :: r, h => simp at h; subst h; simp [joinTo]
theorem joinTo_succ {sep : ByteArray} {ps : List ByteArray} {k : Nat} {p : ByteArray} (h : ps[k]? = some p) (hk : 0 < k) : joinTo sep ps (k + 1) = (joinTo sep ps k ++ sep) ++ p := by
  unfold joinTo
  rw [List.take_add_one, h]
  match ps, k, hk with
  | [], _, _ => simp at h
  | x :: r, k + 1, _ => simp
theorem joinTo_size {sep : ByteArray} {ps : List ByteArray} (hs : sep.size ≤ 100) (hp : ∀ p ∈ ps, p.size ≤ 100) : ∀ k, k ≤ ps.length → (joinTo sep ps k).size ≤ k * 200 := by
  intro k
  induction k with
  | zero => intro _; rw [joinTo_zero]; exact Nat.le_refl _
  | succ k ih =>
    intro hk
    obtain ⟨p, hpk⟩ := list_split (l := ps) (k := k) (by omega)
    have h1 := hp p (List.mem_of_getElem? hpk)
    have h2 := ih (by omega)
    rcases Nat.eq_zero_or_pos k with rfl | hpos
    · rw [joinTo_one hpk]; omega
    · rw [joinTo_succ hpk hpos, ByteArray.size_append, ByteArray.size_append]; omega
def textsV (ps : List ByteArray) : List Value := ps.map Value.string
theorem texts_at {w : World} {B n : Nat} {A : Option Addr} {ps : List ByteArray} (h : Reads w B 1 A n (textsV ps)) {k : Nat} {p : ByteArray} (hp : ps[k]? = some p) :
    ∃ b o, A = some ⟨b, o, none⟩ ∧ b < B ∧ w.cell? ⟨b, o + k, none⟩ = some (.string p) := by
  have hk := (List.getElem?_eq_some_iff.1 hp).1
  have hl : ps.length = n := by have := h.1; simp [textsV] at this; omega
  obtain ⟨b, o, hA, hb, hc⟩ := h.2 (by omega)
  exact ⟨b, o, hA, hb, hc k _ (by simp [textsV, hp])⟩
set_option maxHeartbeats 2000000 in
theorem join_any (A : Option Addr) (n c : Nat) (sep : ByteArray) (ps : List ByteArray) (w : World) (hn : n ≤ 64) (hs : sep.size ≤ 100) (hp : ∀ p ∈ ps, p.size ≤ 100) (h : Reads w w.heap.size 1 A n (textsV ps)) :
    Calls Try.prog 164 #[.slice A n c, .string sep] w fun e w' => e = .returned (.string (joinTo sep ps n)) ∧ Below w.heap.size w w' := by
  have hl : ps.length = n := by have := h.1; simp [textsV] at this; omega
  have H := Lib.hid h
  have HL := Lib.hid hl
  have HP := Lib.hid hp
  have HZ := Lib.hid (joinTo_size hs hp)
  clear h hl hp
  go_enter Try.func164, Try.ntmps164
  go_wp2
  go_loopw [5, 10] (fun v i wr => ∃ (k : Nat) (tx : ByteArray), k ≤ n ∧ i = .int .i64 k ∧ v = .string tx ∧ tx.size ≤ k * 200 ∧ Hid (joinTo sep ps k = tx) ∧ Below w.heap.size w wr) (fun _ i _ => n - (intOf i).toNat)
  case atStart => exact ⟨0, ⟨#[]⟩, Nat.zero_le _, rfl, rfl, Nat.le_refl _, Lib.hid (joinTo_zero _ _), ext_refl _⟩
  case round =>
    obtain ⟨k, tx, hk, rfl, rfl, hTs, hT, hbl⟩ := hrel
    by_cases hlt : k < n
    · obtain ⟨p, hp⟩ := list_split (l := ps) (k := k) (by rw [HL.out]; exact hlt)
      obtain ⟨b, o, rfl, hbb, c0⟩ := texts_at (H.out.ext hbl (Nat.le_refl _)) hp
      have hbw : b < wr.heap.size := Nat.lt_of_lt_of_le hbb hbl.size
      have hps := HP.out p (List.mem_of_getElem? hp)
      have hlt' : (k : Int) < (n : Int) := by omega
      rcases Nat.eq_zero_or_pos k with hk0 | hpos
      · have hnew : Hid (joinTo sep ps (k + 1) = p) := Lib.hid (by rw [hk0] at hp ⊢; exact joinTo_one hp)
        have hTe : tx = ⟨#[]⟩ := by rw [← hT.out, hk0, joinTo_zero]
        have hpos' : decide (0 < k) = false := decide_eq_false (by omega)
        subst hTe
        clear hp hk0
        have hap : Hid ((⟨#[]⟩ : ByteArray) ++ p = p) := Lib.hid (bl_inj (by rw [bl_append]; rfl))
        go_wp2
        go_roundw
        case rel => exact ⟨k + 1, p, by omega, by go_num, by rw [hap.out], by omega, hnew, hbl⟩
        case measure => simp [intOf]; omega
      · have hnew := Lib.hid (joinTo_succ (sep := sep) hp hpos)
        rw [hT.out] at hnew
        have hsz : (tx ++ sep ++ p).size ≤ (k + 1) * 200 := by rw [ByteArray.size_append, ByteArray.size_append]; omega
        clear hp
        have hpos' : decide (0 < k) = true := decide_eq_true hpos
        go_wp2
        go_roundw
        case rel => exact ⟨k + 1, tx ++ sep ++ p, by omega, by go_num, rfl, hsz, hnew, hbl⟩
        case measure => simp [intOf]; omega
    · obtain rfl : k = n := by omega
      go_wp2
      go_ret
      exact ⟨by rw [hT.out]; rfl, hbl⟩
def listT (ns : List Int) : ByteArray := if ns.length = 0 then ⟨#[110, 111, 110, 101]⟩ else joinTo ⟨#[32]⟩ (ns.map decI) ns.length
theorem decI_map (ns : List Int) : ∀ p ∈ ns.map decI, p.size ≤ 100 := by
  intro p hp
  rw [List.mem_map] at hp
  obtain ⟨z, _, rfl⟩ := hp
  have := decI_size z
  omega
def smallI (ns : List Int) : Prop := ∀ z ∈ ns, -9223372036854775807 ≤ z ∧ z ≤ 9223372036854775807
set_option maxHeartbeats 2000000 in
theorem listed_any (A : Option Addr) (n c : Nat) (ns : List Int) (w : World) (hn : n ≤ 64) (hz : smallI ns) (h : Reads w w.heap.size 1 A n (intsV ns)) :
    Calls Try.prog 144 #[.slice A n c] w fun e w' => e = .returned (.string (listT ns)) ∧ Below w.heap.size w w' := by
  have hl := ints_len h
  obtain ⟨i0, hi, hz0, hz1, hz2⟩ := info_parts info_str
  by_cases h0 : n = 0
  · have e : listT ns = ⟨#[110, 111, 110, 101]⟩ := by unfold listT; rw [if_pos (by omega)]
    have h0' : ((n : Int) == 0) = true := beq_iff_eq.2 (by omega)
    rw [e]
    clear e h0 h hl
    go_enter Try.func144, Try.ntmps144
    go_wp2
    go_ret
    exact ⟨rfl, ext_refl _⟩
  have e : listT ns = joinTo ⟨#[32]⟩ (ns.map decI) n := by unfold listT; rw [if_neg (by omega), hl]
  have HE := Lib.hid e
  have h0' : ((n : Int) == 0) = false := beq_eq_false_iff_ne.2 (by omega)
  have H := Lib.hid h
  have HL := Lib.hid hl
  have HZ := Lib.hid hz
  have HJ := Lib.hid (fun (A : Option Addr) (c : Nat) (w : World) h => join_any A n c ⟨#[32]⟩ (ns.map decI) w hn (by decide) (decI_map ns) h)
  clear e h0 h hl hz
  go_enter Try.func144, Try.ntmps144
  go_wp2
  go_loopw [3, 11] (fun v i wr => ∃ k : Nat, k ≤ n ∧ i = .int .i64 k ∧ Hid (wr.ownsRow w.heap.size 9 1 v k (textsV ((ns.take k).map decI))) ∧ Hid (Below w.heap.size w wr)) (fun _ i _ => n - (intOf i).toNat)
  case atStart => exact ⟨0, Nat.zero_le _, rfl, Lib.hid (World.ownsRow_nil _ _ _ _), Lib.hid (ext_refl _)⟩
  case round =>
    obtain ⟨k, hk, rfl, hown, HB⟩ := hrel
    by_cases hlt : k < n
    · obtain ⟨z, hz⟩ := list_split (l := ns) (k := k) (by rw [HL.out]; exact hlt)
      obtain ⟨b, o, rfl, hbb, c0⟩ := ints_at (H.out.ext HB.out (Nat.le_refl _)) hz
      have hbw : b < wr.heap.size := Nat.lt_of_lt_of_le hbb HB.out.size
      obtain ⟨z1, z2⟩ := HZ.out z (List.mem_of_getElem? hz)
      have hlt' : (k : Int) < (n : Int) := by omega
      have hnew : Hid (textsV ((ns.take (k + 1)).map decI) = textsV ((ns.take k).map decI) ++ [.string (decI z)]) := Lib.hid (by rw [List.take_add_one, hz]; simp [textsV])
      have m1 : k + 1 ≤ maxLen := by unfold maxLen; omega
      have m2 : (k + 1) * 16 ≤ 140737488355328 := by omega
      clear hz
      go_wp2_with fail
      refine (text_any _ _ (by omega) (by omega)).mono ?_
      rintro e w5 ⟨rfl, hb⟩
      have hown5 := Lib.hid (own_ext hown.out hb)
      have HB5 := Lib.hid (ext_trans HB.out hb)
      clear hb c0
      go_wp2_with (at_builtin; refine wpList_append_own _ rfl (.tmp 15) (.tmp 18) 54 rfl w.heap.size 9 i0 _ 1 16 Try.underlying54 hi hz0 hz1 hz2 rfl (by decide) _ _ _ rfl (hown5.out.alloc _) _ 1 1 [.string (decI z)] rfl rfl (cell_one_at _ _ _ (by simp)) (by simp [Value.oneCell']) m1 m2 (by have := HB5.out.size; simp; omega) ?_; intro v' w2 hown2 hgrow _)
      go_roundw
      case rel =>
        refine ⟨k + 1, by omega, by go_num, ?_, Lib.hid (below_grown hown5.out (ext_alloc HB5.out _) hgrow)⟩
        refine Lib.hid ?_
        rw [hnew.out]
        exact hown2
      case measure => simp [intOf]; omega
    · obtain rfl : k = n := by omega
      have hown1 := hown.out
      obtain ⟨A', c', rfl⟩ := own_shape hown1
      have hall : Hid (textsV ((ns.take k).map decI) = textsV (ns.map decI)) := Lib.hid (by rw [List.take_of_length_le (by rw [HL.out]; exact Nat.le_refl _)])
      have hrd := Lib.hid (Reads.of_own hown1)
      rw [hall.out] at hrd
      clear hown1
      go_wp2_with (go_at_call 164; refine (HJ.out A' c' _ hrd.out).mono ?_; rintro e w' ⟨rfl, hb⟩)
      go_ret
      exact ⟨by rw [HE.out]; rfl, ext_trans HB.out hb⟩
set_option maxHeartbeats 2000000 in
theorem l28List_any (A : Option Addr) (n c : Nat) (ns : List Int) (ok : Bool) (w : World) (hn : n ≤ 64) (hz : smallI ns) (h : Reads w w.heap.size 1 A n (intsV ns)) :
    Calls Try.prog 159 #[.slice A n c, .bool ok] w fun e w' => e = .returned (.string (if ok = true then listT ns else ⟨#[63]⟩)) ∧ Below w.heap.size w w' := by
  have hl := ints_len h
  cases ok
  · rw [if_neg (by simp)]
    clear h hl
    go_enter Try.func159, Try.ntmps159
    go_wp2
    go_ret
    exact ⟨rfl, ext_refl _⟩
  rw [if_pos rfl]
  by_cases h0 : n = 0
  · have e : listT ns = ⟨#[110, 111, 110, 101]⟩ := by unfold listT; rw [if_pos (by omega)]
    have h0' : ((n : Int) == 0) = true := beq_iff_eq.2 (by omega)
    rw [e]
    clear e h0 h hl
    go_enter Try.func159, Try.ntmps159
    go_wp2
    go_ret
    exact ⟨rfl, ext_refl _⟩
  have e : listT ns = joinTo ⟨#[32]⟩ (ns.map decI) n := by unfold listT; rw [if_neg (by omega), hl]
  have HE := Lib.hid e
  have h0' : ((n : Int) == 0) = false := beq_eq_false_iff_ne.2 (by omega)
  have hpos : 0 < n := by omega
  have H := Lib.hid h
  have HL := Lib.hid hl
  have HZ := Lib.hid hz
  have HS := Lib.hid (joinTo_size (sep := ⟨#[32]⟩) (by decide) (decI_map ns))
  obtain ⟨z0, hz0⟩ := list_split (l := ns) (k := 0) (by omega)
  obtain ⟨z01, z02⟩ := hz z0 (List.mem_of_getElem? hz0)
  obtain ⟨b, o, rfl, hbb, c0⟩ := ints_at h hz0
  rw [Nat.add_zero] at c0
  have hj1 := Lib.hid (joinTo_one (sep := ⟨#[32]⟩) (ps := ns.map decI) (p := decI z0) (by simp [hz0]))
  have hs0 := decI_size z0
  have hpos2 : (0 : Int) < (n : Int) := by omega
  clear e h0 h hl hz hz0
  go_enter Try.func159, Try.ntmps159
  go_wp2_with (go_at_call 85; refine (l1Num_any _ _ (by omega) (by omega)).mono ?_; rintro e w1 ⟨rfl, hb1⟩)
  go_loopw [5, 6] (fun v i wr => ∃ (k : Nat) (tx : ByteArray), 1 ≤ k ∧ k ≤ n ∧ i = .int .i64 k ∧ v = .string tx ∧ tx.size ≤ k * 200 ∧ Hid (joinTo ⟨#[32]⟩ (ns.map decI) k = tx) ∧ Below w.heap.size w wr) (fun _ i _ => n - (intOf i).toNat)
  case atStart => exact ⟨1, decI z0, Nat.le_refl _, hpos, rfl, rfl, by omega, hj1, hb1⟩
  case round =>
    obtain ⟨k, tx, hk1, hk, rfl, rfl, hTs, hT, hbl⟩ := hrel
    by_cases hlt : k < n
    · obtain ⟨z, hz⟩ := list_split (l := ns) (k := k) (by rw [HL.out]; exact hlt)
      obtain ⟨b', o', hA, hbb', c1⟩ := ints_at (H.out.ext hbl (Nat.le_refl _)) hz
      injection hA with hA
      injection hA with hA1 hA2
      subst hA1 hA2
      have hbw : b < wr.heap.size := Nat.lt_of_lt_of_le hbb hbl.size
      obtain ⟨z1, z2⟩ := HZ.out z (List.mem_of_getElem? hz)
      have hzs := decI_size z
      have hlt' : (k : Int) < (n : Int) := by omega
      have hnew := Lib.hid (joinTo_succ (sep := ⟨#[32]⟩) (ps := ns.map decI) (k := k) (p := decI z) (by simp [hz]) (by omega))
      rw [hT.out] at hnew
      have hsz : ((tx ++ ⟨#[32]⟩) ++ decI z).size ≤ (k + 1) * 200 := by rw [ByteArray.size_append, ByteArray.size_append]; simp [lit_size]; omega
      clear hz
      go_wp2_with (go_at_call 85; refine (l1Num_any _ _ (by omega) (by omega)).mono ?_; rintro e w5 ⟨rfl, hb⟩)
      go_roundw
      case rel => exact ⟨k + 1, (tx ++ ⟨#[32]⟩) ++ decI z, by omega, by omega, by go_num, rfl, hsz, hnew, ext_trans hbl hb⟩
      case measure => simp [intOf]; omega
    · obtain rfl : k = n := by omega
      go_wp2
      go_ret
      exact ⟨by rw [HE.out, hT.out]; rfl, hbl⟩
end Go.Proofs.Ytclihlihaigddaa
namespace Go.Proofs.Ytclihlihaigddaa
open Go.RowKit
set_option linter.unusedVariables false
set_option linter.unusedSimpArgs false
def numsO : List (List UInt8) → Option (List Int)
  | [] => some []
  | x :: ws => match parO (str x) with | none => none | some v => (numsO ws).map (v :: ·)
theorem numsO_some : ∀ (ws : List (List UInt8)) (vs : List Int), numsO ws = some vs → vs.length = ws.length ∧ ∀ (i : Nat) (x : List UInt8), ws[i]? = some x → ∃ v, vs[i]? = some v ∧ parO (str x) = some v := by
  intro ws
  induction ws with
  | nil => intro vs h; simp [numsO] at h; subst h; exact ⟨rfl, fun i x hx => by simp at hx⟩
  | cons y ws ih =>
    intro vs h
    rcases hp : parO (str y) with _ | v
    · simp [numsO, hp] at h
    · rcases hn : numsO ws with _ | us
      · simp [numsO, hp, hn] at h
      · simp [numsO, hp, hn] at h
        subst h
        obtain ⟨h1, h2⟩ := ih us hn
        refine ⟨by simp [h1], fun i x hx => ?_⟩
        rcases i with _ | i
        · simp at hx; subst hx; exact ⟨v, by simp, hp⟩
        · simp at hx
          obtain ⟨u, hu, hq⟩ := h2 i x hx
          exact ⟨u, by simpa using hu, hq⟩
theorem numsO_of : ∀ (ws : List (List UInt8)) (vs : List Int), vs.length = ws.length → (∀ (i : Nat) (x : List UInt8), ws[i]? = some x → ∃ v, vs[i]? = some v ∧ parO (str x) = some v) → numsO ws = some vs := by
  intro ws
  induction ws with
  | nil => intro vs h _; have : vs = [] := List.eq_nil_of_length_eq_zero h; subst this; rfl
  | cons y ws ih =>
    intro vs h hx
    rcases vs with _ | ⟨u, us⟩
    · simp at h
    · obtain ⟨v, hv, hp⟩ := hx 0 y (by simp)
      simp at hv
      subst hv
      have := ih us (by simpa using h) (fun i x hi => by
        obtain ⟨v, hv, hp⟩ := hx (i + 1) x (by simpa using hi)
        exact ⟨v, by simpa using hv, hp⟩)
      simp [numsO, hp, this]
theorem numsO_bad : ∀ (ws : List (List UInt8)), numsO ws = none → ∃ (i : Nat) (x : List UInt8), ws[i]? = some x ∧ parO (str x) = none ∧ ∀ (j : Nat) (y : List UInt8), j < i → ws[j]? = some y → ∃ v, parO (str y) = some v := by
  intro ws
  induction ws with
  | nil => intro h; simp [numsO] at h
  | cons y ws ih =>
    intro h
    rcases hp : parO (str y) with _ | v
    · exact ⟨0, y, by simp, hp, fun j _ hj => absurd hj (by omega)⟩
    · rcases hn : numsO ws with _ | us
      · obtain ⟨i, x, h1, h2, h3⟩ := ih hn
        refine ⟨i + 1, x, by simpa using h1, h2, fun j z hj hz => ?_⟩
        rcases j with _ | j
        · simp at hz; subst hz; exact ⟨v, hp⟩
        · exact h3 j z (by omega) (by simpa using hz)
      · simp [numsO, hp, hn] at h
theorem splitL_mem (b : UInt8) : ∀ (l x : List UInt8), x ∈ splitL b l → x.length ≤ l.length := by
  intro l
  induction l with
  | nil => intro x h; simp [splitL] at h; subst h; simp
  | cons c l ih =>
    intro x h
    by_cases hc : c = b
    · subst hc
      rw [splitL_hit] at h
      rcases List.mem_cons.1 h with rfl | h
      · simp
      · have := ih x h; simp; omega
    · rw [splitL_miss hc] at h
      rcases hp : splitL b l with _ | ⟨y, t⟩
      · exact absurd hp (splitL_ne b l)
      · rw [hp] at h
        simp only [glue] at h
        rcases List.mem_cons.1 h with rfl | h
        · have := ih y (by rw [hp]; simp); simp; omega
        · have := ih x (by rw [hp]; simp [h]); simp; omega
def kindB (s : ByteArray) : Int := if s = ⟨#[101, 110, 114, 111, 108]⟩ then 2 else if s = ⟨#[112, 114, 97, 99, 116, 105, 115, 101]⟩ then 3 else if s = ⟨#[101, 120, 97, 109]⟩ then 4 else if s = ⟨#[112, 97, 121]⟩ then 5 else 0
theorem kind_cases (s : ByteArray) : (kindB s = 2 ∧ s = ⟨#[101, 110, 114, 111, 108]⟩) ∨ (kindB s = 3 ∧ s = ⟨#[112, 114, 97, 99, 116, 105, 115, 101]⟩) ∨ (kindB s = 4 ∧ s = ⟨#[101, 120, 97, 109]⟩) ∨ (kindB s = 5 ∧ s = ⟨#[112, 97, 121]⟩) ∨
    (kindB s = 0 ∧ s ≠ ⟨#[101, 110, 114, 111, 108]⟩ ∧ s ≠ ⟨#[112, 114, 97, 99, 116, 105, 115, 101]⟩ ∧ s ≠ ⟨#[101, 120, 97, 109]⟩ ∧ s ≠ ⟨#[112, 97, 121]⟩) := by
  unfold kindB
  by_cases h1 : s = ⟨#[101, 110, 114, 111, 108]⟩
  · exact .inl ⟨by rw [if_pos h1], h1⟩
  · by_cases h2 : s = ⟨#[112, 114, 97, 99, 116, 105, 115, 101]⟩
    · exact .inr (.inl ⟨by rw [if_neg h1, if_pos h2], h2⟩)
    · by_cases h3 : s = ⟨#[101, 120, 97, 109]⟩
      · exact .inr (.inr (.inl ⟨by rw [if_neg h1, if_neg h2, if_pos h3], h3⟩))
      · by_cases h4 : s = ⟨#[112, 97, 121]⟩
        · exact .inr (.inr (.inr (.inl ⟨by rw [if_neg h1, if_neg h2, if_neg h3, if_pos h4], h4⟩)))
        · exact .inr (.inr (.inr (.inr ⟨by rw [if_neg h1, if_neg h2, if_neg h3, if_neg h4], h1, h2, h3, h4⟩)))
def stpQ (q : Sch4) (k id v : Int) : Option Sch4 := stepS q.1 q.2.2.1 q.2.2.2 q.2.1 k id v
def stuQ (q : Sch4) (id : Int) : Option ByteArray := stuO q.1 q.2.2.1 q.2.2.2 q.2.1 id
def rep2 (q : Sch4) (word : ByteArray) (n v : Int) : Option (Sch4 × ByteArray) :=
  if 0 < kindB word then (match stpQ q (kindB word) n v with | none => none | some s => some (s, (stuQ s n).getD ⟨#[63]⟩)) else none
def rep1 (q : Sch4) (word : ByteArray) (n : Int) : Option (Sch4 × ByteArray) :=
  if word = ⟨#[119, 97, 105, 116]⟩ then (stpQ q 1 0 n).map fun s => (s, decI s.1)
  else if word = ⟨#[108, 101, 97, 118, 101]⟩ then (stpQ q 6 n 0).map fun s => (s, listT [s.2.2.1, s.2.2.2])
  else if word = ⟨#[109, 105, 115, 115, 105, 110, 103]⟩ then (hmO q.1 q.2.2.1 q.2.2.2 q.2.1 n).map fun h => (q, decI h)
  else if word = ⟨#[116, 101, 120, 116]⟩ then (stuQ q n).map fun t => (q, t)
  else none
def rep0 (q : Sch4) (word : ByteArray) : Option (Sch4 × ByteArray) :=
  if word = ⟨#[100, 97, 121]⟩ then some (q, decI q.1)
  else if word = ⟨#[114, 101, 97, 100, 121]⟩ then some (q, listT (selB (readyR q.1) q.1 q.2.2.1 q.2.2.2 q.2.1))
  else if word = ⟨#[117, 110, 112, 97, 105, 100]⟩ then some (q, listT (selB (unpR q.1) q.1 q.2.2.1 q.2.2.2 q.2.1))
  else none
/-- the reply to a line, and the school behind it; none: not understood, or not possible -/
def repO (q : Sch4) (line : ByteArray) : Option (Sch4 × ByteArray) :=
  match numsO ((splitL 32 (bl line)).drop 1) with
  | some [] => rep0 q (str ((splitL 32 (bl line)).headD []))
  | some [n] => rep1 q (str ((splitL 32 (bl line)).headD [])) n
  | some [n, v] => rep2 q (str ((splitL 32 (bl line)).headD [])) n v
  | _ => none
theorem findI_mem {l : List R5} {id : Int} {r : R5} (hr : r ∈ l) (ha : r.a = id) : ∃ (k : Nat) (s : R5), findI l id = k ∧ l[k]? = some s := by
  rcases findI_cases l id with ⟨h1, h2⟩ | ⟨k, s, h1, h2, _, _⟩
  · obtain ⟨i, hi⟩ := List.mem_iff_getElem?.1 hr
    exact absurd ha (h2 i r (List.getElem?_eq_some_iff.1 hi).1 hi)
  · exact ⟨k, s, h1, h2⟩
theorem teach_id {day pa le : Int} {l : List R5} {i : Nat} {r : R5} {k v : Int} {L : List R5} {p q : Int} (hr : l[i]? = some r) (hk : k = 3 ∨ k = 4 ∨ k = 5) (h : teach day pa le l i r k v = some (L, p, q)) : ∃ s ∈ L, s.a = r.a := by
  have hi := (List.getElem?_eq_some_iff.1 hr).1
  have hm : ∀ s : R5, s ∈ l.set i s := fun s => List.mem_set hi s
  unfold teach at h
  rcases hk with rfl | rfl | rfl
  · simp only [if_pos] at h
    split at h
    · cases h
    · simp only [Option.some.injEq, Prod.mk.injEq] at h; rw [← h.1]; exact ⟨_, hm _, rfl⟩
  · simp only [if_pos] at h
    rw [if_neg (by omega)] at h
    split at h
    · cases h
    · split at h <;> (simp only [Option.some.injEq, Prod.mk.injEq] at h; rw [← h.1]; exact ⟨_, hm _, rfl⟩)
  · rw [if_neg (by omega), if_neg (by omega), if_pos rfl] at h
    split at h
    · cases h
    · simp only [Option.some.injEq, Prod.mk.injEq] at h; rw [← h.1]; exact ⟨_, hm _, rfl⟩
theorem stpQ_ok {q s : Sch4} {k id v : Int} (h : stpQ q k id v = some s) : schB s.1 s.2.1 s.2.2.1 s.2.2.2 = true := by
  unfold stpQ stepS at h
  rcases ht : tryS q.1 q.2.2.1 q.2.2.2 q.2.1 k id v with _ | y
  · rw [ht] at h; cases h
  · rw [ht, Option.filter_some] at h
    split at h
    · rename_i hs; injection h with h; rw [← h]; exact hs
    · cases h
/-- behind a step about a student the student is there -/
theorem stp_there {q s : Sch4} {k id v : Int} (hk : k = 2 ∨ k = 3 ∨ k = 4 ∨ k = 5) (h : stpQ q k id v = some s) : ∃ t, stuQ s id = some t := by
  have hok := stpQ_ok h
  have hmem : ∃ r ∈ s.2.1, r.a = id := by
    unfold stpQ stepS at h
    rcases ht : tryS q.1 q.2.2.1 q.2.2.2 q.2.1 k id v with _ | y
    · rw [ht] at h; cases h
    · rw [ht, Option.filter_some] at h
      split at h
      · injection h with h
        subst h
        unfold tryS at ht
        rw [if_neg (by omega)] at ht
        rcases hk with rfl | hk
        · rw [if_pos rfl] at ht
          split at ht
          · cases ht
          · injection ht with ht
            rw [← ht]
            exact ⟨_, insS_mem _ _ _ _, rfl⟩
        · rw [if_neg (by omega), if_pos (by omega)] at ht
          split at ht
          · cases ht
          · rename_i hf
            rcases findI_cases q.2.1 id with ⟨h1, _⟩ | ⟨i, r, h1, h2, h3, _⟩
            · omega
            · rw [h1] at ht
              simp only [Int.toNat_natCast, h2] at ht
              rcases hte : teach q.1 q.2.2.1 q.2.2.2 q.2.1 i r k v with _ | ⟨L, p, z⟩
              · rw [hte] at ht; cases ht
              · rw [hte] at ht
                simp only [Option.map_some] at ht
                injection ht with ht
                obtain ⟨u, hu, ha⟩ := teach_id h2 hk hte
                rw [← ht]
                exact ⟨u, hu, ha.trans h3⟩
      · cases h
  obtain ⟨r, hr, ha⟩ := hmem
  obtain ⟨i, u, h1, h2⟩ := findI_mem hr ha
  exact ⟨stuT u, stuO_hit hok h1 h2⟩
theorem hm_bound (day pa le : Int) (l : List R5) (id : Int) : 0 ≤ (hmO day pa le l id).getD 0 ∧ (hmO day pa le l id).getD 0 ≤ 1000 := by
  unfold hmO
  split
  · rename_i hs
    split
    · simp
    · rcases hr : l[(findI l id).toNat]? with _ | r
      · simp
      · obtain ⟨_, h2, h3, _, _⟩ := stu_bounds (sch_stu hs hr)
        simp only []
        split
        · simp
        · simp only [Option.getD_some]
          split <;> omega
  · simp
theorem selB_len (p : R5 → Bool) (day pa le : Int) (l : List R5) : (selB p day pa le l).length ≤ l.length := by
  unfold selB
  split
  · have := List.length_filter_le p l
    simp; omega
  · simp
theorem selB_small {p : R5 → Bool} {day pa le : Int} {l : List R5} (hs : schB day l pa le = true) : smallI (selB p day pa le l) := by
  intro z hz
  unfold selB at hz
  rw [if_pos hs] at hz
  rw [List.mem_map] at hz
  obtain ⟨r, hr, rfl⟩ := hz
  have hm := (List.mem_filter.1 hr).1
  obtain ⟨i, hi⟩ := List.mem_iff_getElem?.1 hm
  have := (stu_bounds (sch_stu hs hi)).1
  omega
end Go.Proofs.Ytclihlihaigddaa
namespace Go.Proofs.Ytclihlihaigddaa
open Go.RowKit
set_option linter.unusedVariables false
set_option linter.unusedSimpArgs false
set_option maxRecDepth 100000 in
set_option maxHeartbeats 4000000 in
theorem l25Make_wait (day pa le id v : Int) (A : Option Addr) (n c : Nat) (l : List R5) (w : World) (hn : n ≤ 8) (hnc : n ≤ c) (hA : SlOk A n c) (h : Reads w w.heap.size 5 A n (rowsV l)) (hv : 1 ≤ v) (hday : 0 ≤ day ∧ day ≤ 4000) (hv2 : v ≤ 4000 - day) :
    Calls Try.prog 110 #[schV day A n c pa le, .agg #[.int .i64 1, .int .i64 id, .int .i64 v]] w (RetMake (if schB (day + v) l pa le = true then some (day + v, l, pa, le) else none) w) := by
  obtain ⟨O, hO⟩ : ∃ O, O = (if schB (day + v) l pa le = true then some (day + v, l, pa, le) else none) := ⟨_, rfl⟩
  rw [← hO]
  have HOO := Lib.hid hO
  clear hO
  have hgt : decide (4000 - day < v) = false := by simpa using hv2
  have H := Lib.hid h
  have HL := Lib.hid (rows_len h)
  have HA := Lib.hid (fun w h => l25Own_any day pa le A n c l w (by omega) hA h)
  have HF := Lib.hid (fun (w : World) h => l25Find_any day pa le id A n c l w (by omega) h)
  obtain ⟨zf, hzf⟩ : ∃ zf, findI l id = zf := ⟨_, rfl⟩
  rw [hzf] at HF
  clear hzf
  clear h
  go_enter Try.func110, Try.ntmps110
  go_wp2_with fail
  refine (HA.out _ ((H.out.ext (ext_alloc (ext_alloc (ext_alloc (ext_refl _) _) _) _) (Nat.le_refl _)).more (by simp; omega))).mono ?_
  rintro e w1 ⟨A1, c1, rfl, hown, hb1⟩
  have z0 : w.heap.size + 1 + 1 < w1.heap.size := by (have := hb1.size; simp at this; omega)
  have z1 : w.heap.size + 1 < w1.heap.size := by omega
  have z2 : w.heap.size < w1.heap.size := by omega
  have BX : Hid (Blk w1 w.heap.size 24 #[.int .i64 day, .slice A n c, .int .i64 pa, .int .i64 le]) := Lib.hid (((Blk.new w _ _).ext (ext_alloc (ext_alloc (ext_refl _) _) _)).ext hb1)
  have BY : Hid (Blk w1 (w.heap.size + 1) 74 #[.int .i64 1, .int .i64 id, .int .i64 v]) := Lib.hid (by
    have := ((Blk.new (w.alloc (.cells #[.int .i64 day, .slice A n c, .int .i64 pa, .int .i64 le] 24)) #[.int .i64 1, .int .i64 id, .int .i64 v] 74).ext (ext_alloc (ext_refl _) (.cells #[.int .i64 0, .slice none 0 0, .int .i64 0, .int .i64 0] 24))).ext hb1
    simpa using this)
  have BR : Hid (Blk w1 (w.heap.size + 1 + 1) 24 #[.int .i64 0, .slice none 0 0, .int .i64 0, .int .i64 0]) := Lib.hid (by
    have := (Blk.new ((w.alloc (.cells #[.int .i64 day, .slice A n c, .int .i64 pa, .int .i64 le] 24)).alloc (.cells #[.int .i64 1, .int .i64 id, .int .i64 v] 74)) #[.int .i64 0, .slice none 0 0, .int .i64 0, .int .i64 0] 24).ext hb1
    simpa using this)
  have hbw := Lib.hid (ext_trans (ext_alloc (ext_alloc (ext_alloc (ext_refl w) _) _) _) hb1)
  have HO : Hid (w1.ownsRow w.heap.size 109 5 (.slice A1 n c1) n (rowsV l)) := Lib.hid (own_base hown (by simp; omega))
  clear hb1 hown
  have x0 : w1.cell? ⟨w.heap.size, 0, none⟩ = some (.int .i64 day) := BX.out.cell 0
  have fx0 := BX.out.frozen 0
  have x1 : w1.cell? ⟨w.heap.size, 1, none⟩ = some (.slice A n c) := BX.out.cell 1
  have fx1 := BX.out.frozen 1
  have x2 : w1.cell? ⟨w.heap.size, 2, none⟩ = some (.int .i64 pa) := BX.out.cell 2
  have fx2 := BX.out.frozen 2
  have x3 : w1.cell? ⟨w.heap.size, 3, none⟩ = some (.int .i64 le) := BX.out.cell 3
  have fx3 := BX.out.frozen 3
  have y0 : w1.cell? ⟨w.heap.size + 1, 0, none⟩ = some (.int .i64 1) := BY.out.cell 0
  have fy0 := BY.out.frozen 0
  have y1 : w1.cell? ⟨w.heap.size + 1, 1, none⟩ = some (.int .i64 id) := BY.out.cell 1
  have fy1 := BY.out.frozen 1
  have y2 : w1.cell? ⟨w.heap.size + 1, 2, none⟩ = some (.int .i64 v) := BY.out.cell 2
  have fy2 := BY.out.frozen 2
  have r0 : w1.cell? ⟨w.heap.size + 1 + 1, 0, none⟩ = some (.int .i64 0) := BR.out.cell 0
  have fr0 := BR.out.frozen 0
  have r1 : w1.cell? ⟨w.heap.size + 1 + 1, 1, none⟩ = some (.slice none 0 0) := BR.out.cell 1
  have fr1 := BR.out.frozen 1
  have r2 : w1.cell? ⟨w.heap.size + 1 + 1, 2, none⟩ = some (.int .i64 0) := BR.out.cell 2
  have fr2 := BR.out.frozen 2
  have r3 : w1.cell? ⟨w.heap.size + 1 + 1, 3, none⟩ = some (.int .i64 0) := BR.out.cell 3
  have fr3 := BR.out.frozen 3
  go_wp2_with fail
  refine (HF.out _ (((H.out.ext hbw.out (Nat.le_refl _)).ext (ext_alloc (ext_refl _) _) (by omega)).more (by simp; omega))).mono ?_
  rintro e w5 ⟨rfl, hb5⟩
  have z5 : w1.heap.size < w5.heap.size := by (have := hb5.size; simp at this; omega)
  have z50 : w.heap.size + 1 + 1 < w5.heap.size := by omega
  have z51 : w.heap.size + 1 < w5.heap.size := by omega
  have z52 : w.heap.size < w5.heap.size := by omega
  have b5 := Lib.hid (ext_trans hbw.out (ext_trans (ext_alloc (ext_refl _) _) hb5))
  have O5 := Lib.hid (own_ext HO.out (ext_trans (ext_alloc (ext_refl _) _) hb5))
  have GX5 := Lib.hid (BX.out.ext (ext_trans (ext_alloc (ext_refl _) _) hb5))
  have GY5 := Lib.hid (BY.out.ext (ext_trans (ext_alloc (ext_refl _) _) hb5))
  have GR5 := Lib.hid (BR.out.ext (ext_trans (ext_alloc (ext_refl _) _) hb5))
  have GT5 : Hid (Blk w5 w1.heap.size 24 #[.int .i64 day, .slice A1 n c1, .int .i64 pa, .int .i64 le]) := Lib.hid ((Blk.new w1 _ _).ext hb5)
  clear hb5 x0 x1 x2 x3 fx0 fx1 fx2 fx3 y0 y1 y2 fy0 fy1 fy2 r0 r1 r2 r3 fr0 fr1 fr2 fr3
  have p0 : w5.cell? ⟨w.heap.size, 0, none⟩ = some (.int .i64 day) := GX5.out.cell 0
  have fp0 := GX5.out.frozen 0
  have p1 : w5.cell? ⟨w.heap.size, 1, none⟩ = some (.slice A n c) := GX5.out.cell 1
  have fp1 := GX5.out.frozen 1
  have p2 : w5.cell? ⟨w.heap.size, 2, none⟩ = some (.int .i64 pa) := GX5.out.cell 2
  have fp2 := GX5.out.frozen 2
  have p3 : w5.cell? ⟨w.heap.size, 3, none⟩ = some (.int .i64 le) := GX5.out.cell 3
  have fp3 := GX5.out.frozen 3
  have m0 : w5.cell? ⟨w.heap.size + 1, 0, none⟩ = some (.int .i64 1) := GY5.out.cell 0
  have fm0 := GY5.out.frozen 0
  have m1 : w5.cell? ⟨w.heap.size + 1, 1, none⟩ = some (.int .i64 id) := GY5.out.cell 1
  have fm1 := GY5.out.frozen 1
  have m2 : w5.cell? ⟨w.heap.size + 1, 2, none⟩ = some (.int .i64 v) := GY5.out.cell 2
  have fm2 := GY5.out.frozen 2
  have s0 : w5.cell? ⟨w.heap.size + 1 + 1, 0, none⟩ = some (.int .i64 0) := GR5.out.cell 0
  have fs0 := GR5.out.frozen 0
  have s1 : w5.cell? ⟨w.heap.size + 1 + 1, 1, none⟩ = some (.slice none 0 0) := GR5.out.cell 1
  have fs1 := GR5.out.frozen 1
  have s2 : w5.cell? ⟨w.heap.size + 1 + 1, 2, none⟩ = some (.int .i64 0) := GR5.out.cell 2
  have fs2 := GR5.out.frozen 2
  have s3 : w5.cell? ⟨w.heap.size + 1 + 1, 3, none⟩ = some (.int .i64 0) := GR5.out.cell 3
  have fs3 := GR5.out.frozen 3
  have t0 : w5.cell? ⟨w1.heap.size, 0, none⟩ = some (.int .i64 day) := GT5.out.cell 0
  have ft0 := GT5.out.frozen 0
  have t1 : w5.cell? ⟨w1.heap.size, 1, none⟩ = some (.slice A1 n c1) := GT5.out.cell 1
  have ft1 := GT5.out.frozen 1
  have t2 : w5.cell? ⟨w1.heap.size, 2, none⟩ = some (.int .i64 pa) := GT5.out.cell 2
  have ft2 := GT5.out.frozen 2
  have t3 : w5.cell? ⟨w1.heap.size, 3, none⟩ = some (.int .i64 le) := GT5.out.cell 3
  have ft3 := GT5.out.frozen 3
  obtain ⟨w6, hw6⟩ : ∃ w6, w6 = w5.setCell ⟨w1.heap.size, 0, none⟩ (.int .i64 (day + v)) := ⟨_, rfl⟩
  have b6 : Hid (Below w.heap.size w w6) := Lib.hid (by rw [hw6]; exact ext_set b5.out (by show w.heap.size ≤ w1.heap.size; omega) _)
  have hne5 := own_nb O5.out GT5.out (by decide)
  have O6 : Hid (w6.ownsRow w.heap.size 109 5 (.slice A1 n c1) n (rowsV l)) := Lib.hid (by rw [hw6]; exact own_set_nb O5.out hne5 _)
  have GR6 : Hid (Blk w6 (w.heap.size + 1 + 1) 24 #[.int .i64 0, .slice none 0 0, .int .i64 0, .int .i64 0]) := Lib.hid (by rw [hw6]; exact GR5.out.set_far (by show w1.heap.size ≠ _; omega) _)
  have GT6 : Hid (Blk w6 w1.heap.size 24 #[.int .i64 (day + v), .slice A1 n c1, .int .i64 pa, .int .i64 le]) := Lib.hid (by rw [hw6]; have := GT5.out.set_ 0 (.int .i64 (day + v)); simpa using this)
  go_wp2
  rw [← hw6]
  clear hw6 hne5 p0 p1 p2 p3 fp0 fp1 fp2 fp3 m0 m1 m2 fm0 fm1 fm2 s0 s1 s2 s3 fs0 fs1 fs2 fs3 t0 t1 t2 t3 ft0 ft1 ft2 ft3
  have HG := Lib.hid (fun (w : World) h hn => l25Good_any ((day + v)) (pa) (le) A1 (n) c1 (l) w hn h)
  obtain ⟨sb, hsb⟩ : ∃ sb, schB ((day + v)) (l) (pa) (le) = sb := ⟨_, rfl⟩
  rw [hsb] at HG
  have HSB := Lib.hid hsb
  have hneR := Lib.hid (own_nb O6.out GR6.out (by decide))
  clear hsb
  have a0 : w6.cell? ⟨w1.heap.size, 0, none⟩ = some (.int .i64 (day + v)) := GT6.out.cell 0
  have fa0 := GT6.out.frozen 0
  have a1 : w6.cell? ⟨w1.heap.size, 1, none⟩ = some (.slice A1 (n) c1) := GT6.out.cell 1
  have fa1 := GT6.out.frozen 1
  have a2 : w6.cell? ⟨w1.heap.size, 2, none⟩ = some (.int .i64 pa) := GT6.out.cell 2
  have fa2 := GT6.out.frozen 2
  have a3 : w6.cell? ⟨w1.heap.size, 3, none⟩ = some (.int .i64 le) := GT6.out.cell 3
  have fa3 := GT6.out.frozen 3
  have d0 : w6.cell? ⟨w.heap.size + 1 + 1, 0, none⟩ = some (.int .i64 0) := GR6.out.cell 0
  have fd0 := GR6.out.frozen 0
  have d1 : w6.cell? ⟨w.heap.size + 1 + 1, 1, none⟩ = some (.slice none 0 0) := GR6.out.cell 1
  have fd1 := GR6.out.frozen 1
  have d2 : w6.cell? ⟨w.heap.size + 1 + 1, 2, none⟩ = some (.int .i64 0) := GR6.out.cell 2
  have fd2 := GR6.out.frozen 2
  have d3 : w6.cell? ⟨w.heap.size + 1 + 1, 3, none⟩ = some (.int .i64 0) := GR6.out.cell 3
  have fd3 := GR6.out.frozen 3
  have z6 := GR6.out.lt
  have z61 := GT6.out.lt
  go_region_held3 (fun w' => w'.cell? ⟨w1.heap.size, 0, none⟩ = some (.int .i64 (day + v)) ∧ w'.cell? ⟨w1.heap.size, 1, none⟩ = some (.slice A1 (n) c1) ∧ w'.cell? ⟨w1.heap.size, 2, none⟩ = some (.int .i64 pa) ∧ w'.cell? ⟨w1.heap.size, 3, none⟩ = some (.int .i64 le)) (first | (go_split_ands; refine ⟨?_, ?_, ?_, ?_⟩ <;> with_reducible (repeat (first | assumption | refine cell_drew ?_ | refine ext_cell hb9 ?_ | refine cell_set_far (by show w.heap.size + 1 + 1 ≠ w1.heap.size; omega) ?_)))) (first | (go_at_call 108; refine (HG.out _ (Reads.of_own (base := w.heap.size) (e := 109) (c := c1) (by (repeat (first | (with_reducible exact O6.out) | (with_reducible refine World.ownsRow.drew ?_) | (with_reducible refine own_set_nb ?_ hneR.out _))))) (by omega)).mono ?_; rintro e w9 ⟨rfl, hb9⟩; have HB9 := Lib.hid hb9; obtain ⟨hc9, hf9⟩ := bcell hb9; have z9 := hb9.size; have z91 : w1.heap.size < w9.heap.size := (by simp at z9; omega); have z90 : w.heap.size + 1 + 1 < w9.heap.size := (by omega); (try (have GR9 := GR6.out.ext (ext_trans (ext_drew (ext_refl _)) hb9); have g0 : w9.cell? ⟨w.heap.size + 1 + 1, 0, none⟩ = some (.int .i64 0) := GR9.cell 0; have fg0 := GR9.frozen 0; have g1 : w9.cell? ⟨w.heap.size + 1 + 1, 1, none⟩ = some (.slice none 0 0) := GR9.cell 1; have fg1 := GR9.frozen 1; have g2 : w9.cell? ⟨w.heap.size + 1 + 1, 2, none⟩ = some (.int .i64 0) := GR9.cell 2; have fg2 := GR9.frozen 2; have g3 : w9.cell? ⟨w.heap.size + 1 + 1, 3, none⟩ = some (.int .i64 0) := GR9.cell 3; have fg3 := GR9.frozen 3; clear GR9))))
  all_goals go_wp2
  all_goals
    refine bodyPost_ret (v := .tuple #[schV ((day + v)) A1 (n) c1 (pa) (le), .bool sb]) (by simp [results, Try.results110, go_sem, *]) rfl ?_
    refine ⟨A1, c1, (day + v), pa, le, l, ?_, ?_, ?_, ?_⟩
    · rw [HOO.out, HSB.out]
      rw [HL.out]
      rcases sb with _ | _ <;> rfl
    · rw [HL.out]
      exact (by (repeat (first | (with_reducible exact O6.out) | (with_reducible refine World.ownsRow.drew ?_) | (with_reducible refine own_set_nb ?_ hneR.out _) | refine own_ext ?_ HB9.out)))
    · intro x hx
      rw [HOO.out] at hx
      split at hx
      · injection hx with hx; exact hx.symm
      · cases hx
    · exact (by repeat (first | (with_reducible exact b6.out) | (with_reducible refine ext_drew ?_) | (with_reducible refine ext_set ?_ (by show w.heap.size ≤ w.heap.size + 1 + 1; omega) _) | refine ext_trans ?_ HB9.out))
end Go.Proofs.Ytclihlihaigddaa
