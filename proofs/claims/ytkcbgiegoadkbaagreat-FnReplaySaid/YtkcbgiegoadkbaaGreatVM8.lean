/- The reply to a command, plainly. -/
import Derived.Test.YtkcbgiegoadkbaaGreatVM6
import Derived.Test.YtkcbgiegoadkbaaGreatVLsW
import Derived.Test.YtkcbgiegoadkbaaGreatVM5
import Derived.Test.YtkcbgiegoadkbaaGreatVM1
import Derived.Test.YtkcbgiegoadkbaaGreatVParS
import Derived.Test.YtkcbgiegoadkbaaGreatVM7
import Derived.Test.YtkcbgiegoadkbaaGreatVM3
namespace Go.Proofs.YtkcbgiegoadkbaaGreat
open Go.RowKit
set_option linter.unusedVariables false
set_option linter.unusedSimpArgs false
def numsO : List (List UInt8) → Option (List Int)
 | [] => some []
 | x :: ws => match parO (str x) with | none => none | some v => (numsO ws).map (v :: ·)
theorem numsO_some : ∀ (ws : List (List UInt8)) (vs : List Int), numsO ws = some vs → vs.length = ws.length ∧ ∀ (i : Nat) (x : List UInt8), ws[i]? = some x → ∃ v, vs[i]? = some v ∧ parO (str x) = some v := by
 intro ws
 induction ws with
 | nil => intro vs h; simp [numsO] at h; subst h; exact ⟨rfl, fun i x hx => by simp at hx⟩
 | cons y ws ih =>
   intro vs h
   rcases hp : parO (str y) with _ | v
   · simp [numsO, hp] at h
   · rcases hn : numsO ws with _ | us
     · simp [numsO, hp, hn] at h
     · simp [numsO, hp, hn] at h
       subst h
       obtain ⟨h1, h2⟩ := ih us hn
       refine ⟨by simp [h1], fun i x hx => ?_⟩
       rcases i with _ | i
       · simp at hx; subst hx; exact ⟨v, by simp, hp⟩
       · simp at hx
         obtain ⟨u, hu, hq⟩ := h2 i x hx
         exact ⟨u, by simpa using hu, hq⟩
theorem numsO_of : ∀ (ws : List (List UInt8)) (vs : List Int), vs.length = ws.length → (∀ (i : Nat) (x : List UInt8), ws[i]? = some x → ∃ v, vs[i]? = some v ∧ parO (str x) = some v) → numsO ws = some vs := by
 intro ws
 induction ws with
 | nil => intro vs h _; have : vs = [] := List.eq_nil_of_length_eq_zero h; subst this; rfl
 | cons y ws ih =>
   intro vs h hx
   rcases vs with _ | ⟨u, us⟩
   · simp at h
   · obtain ⟨v, hv, hp⟩ := hx 0 y (by simp)
     simp at hv
     subst hv
     have := ih us (by simpa using h) (fun i x hi => by
      obtain ⟨v, hv, hp⟩ := hx (i + 1) x (by simpa using hi)
      exact ⟨v, by simpa using hv, hp⟩)
     simp [numsO, hp, this]
theorem numsO_bad : ∀ (ws : List (List UInt8)), numsO ws = none → ∃ (i : Nat) (x : List UInt8), ws[i]? = some x ∧ parO (str x) = none ∧ ∀ (j : Nat) (y : List UInt8), j < i → ws[j]? = some y → ∃ v, parO (str y) = some v := by
 intro ws
 induction ws with
 | nil => intro h; simp [numsO] at h
 | cons y ws ih =>
   intro h
   rcases hp : parO (str y) with _ | v
   · exact ⟨0, y, by simp, hp, fun j _ hj => absurd hj (by omega)⟩
   · rcases hn : numsO ws with _ | us
     · obtain ⟨i, x, h1, h2, h3⟩ := ih hn
       refine ⟨i + 1, x, by simpa using h1, h2, fun j z hj hz => ?_⟩
       rcases j with _ | j
       · simp at hz; subst hz; exact ⟨v, hp⟩
       · exact h3 j z (by omega) (by simpa using hz)
     · simp [numsO, hp, hn] at h
theorem splitL_mem (b : UInt8) : ∀ (l x : List UInt8), x ∈ splitL b l → x.length ≤ l.length := by
 intro l
 induction l with
 | nil => intro x h; simp [splitL] at h; subst h; simp
 | cons c l ih =>
   intro x h
   by_cases hc : c = b
   · subst hc
     rw [splitL_hit] at h
     rcases List.mem_cons.1 h with rfl | h
     · simp
     · have := ih x h; simp; omega
   · rw [splitL_miss hc] at h
     rcases hp : splitL b l with _ | ⟨y, t⟩
     · exact absurd hp (splitL_ne b l)
     · rw [hp] at h
       simp only [glue] at h
       rcases List.mem_cons.1 h with rfl | h
       · have := ih y (by rw [hp]; simp); simp; omega
       · have := ih x (by rw [hp]; simp [h]); simp; omega
def kindB (s : ByteArray) : Int := if s = ⟨#[101, 110, 114, 111, 108]⟩ then 2 else if s = ⟨#[112, 114, 97, 99, 116, 105, 115, 101]⟩ then 3 else if s = ⟨#[101, 120, 97, 109]⟩ then 4 else if s = ⟨#[112, 97, 121]⟩ then 5 else 0
theorem kind_cases (s : ByteArray) : (kindB s = 2 ∧ s = ⟨#[101, 110, 114, 111, 108]⟩) ∨ (kindB s = 3 ∧ s = ⟨#[112, 114, 97, 99, 116, 105, 115, 101]⟩) ∨ (kindB s = 4 ∧ s = ⟨#[101, 120, 97, 109]⟩) ∨ (kindB s = 5 ∧ s = ⟨#[112, 97, 121]⟩) ∨
 (kindB s = 0 ∧ s ≠ ⟨#[101, 110, 114, 111, 108]⟩ ∧ s ≠ ⟨#[112, 114, 97, 99, 116, 105, 115, 101]⟩ ∧ s ≠ ⟨#[101, 120, 97, 109]⟩ ∧ s ≠ ⟨#[112, 97, 121]⟩) := by
 unfold kindB
 by_cases h1 : s = ⟨#[101, 110, 114, 111, 108]⟩
 · exact .inl ⟨by rw [if_pos h1], h1⟩
 · by_cases h2 : s = ⟨#[112, 114, 97, 99, 116, 105, 115, 101]⟩
   · exact .inr (.inl ⟨by rw [if_neg h1, if_pos h2], h2⟩)
   · by_cases h3 : s = ⟨#[101, 120, 97, 109]⟩
     · exact .inr (.inr (.inl ⟨by rw [if_neg h1, if_neg h2, if_pos h3], h3⟩))
     · by_cases h4 : s = ⟨#[112, 97, 121]⟩
       · exact .inr (.inr (.inr (.inl ⟨by rw [if_neg h1, if_neg h2, if_neg h3, if_pos h4], h4⟩)))
       · exact .inr (.inr (.inr (.inr ⟨by rw [if_neg h1, if_neg h2, if_neg h3, if_neg h4], h1, h2, h3, h4⟩)))
def stpQ (q : Sch4) (k id v : Int) : Option Sch4 := stepS q.1 q.2.2.1 q.2.2.2 q.2.1 k id v
def stuQ (q : Sch4) (id : Int) : Option ByteArray := stuO q.1 q.2.2.1 q.2.2.2 q.2.1 id
def rep2 (q : Sch4) (word : ByteArray) (n v : Int) : Option (Sch4 × ByteArray) :=
 if 0 < kindB word then (match stpQ q (kindB word) n v with | none => none | some s => some (s, (stuQ s n).getD ⟨#[63]⟩)) else none
def rep1 (q : Sch4) (word : ByteArray) (n : Int) : Option (Sch4 × ByteArray) :=
 if word = ⟨#[119, 97, 105, 116]⟩ then (stpQ q 1 0 n).map fun s => (s, decI s.1)
 else if word = ⟨#[108, 101, 97, 118, 101]⟩ then (stpQ q 6 n 0).map fun s => (s, listT [s.2.2.1, s.2.2.2])
 else if word = ⟨#[109, 105, 115, 115, 105, 110, 103]⟩ then (hmO q.1 q.2.2.1 q.2.2.2 q.2.1 n).map fun h => (q, decI h)
 else if word = ⟨#[116, 101, 120, 116]⟩ then (stuQ q n).map fun t => (q, t)
 else none
def rep0 (q : Sch4) (word : ByteArray) : Option (Sch4 × ByteArray) :=
 if word = ⟨#[100, 97, 121]⟩ then some (q, decI q.1)
 else if word = ⟨#[114, 101, 97, 100, 121]⟩ then some (q, listT (selB (readyR q.1) q.1 q.2.2.1 q.2.2.2 q.2.1))
 else if word = ⟨#[117, 110, 112, 97, 105, 100]⟩ then some (q, listT (selB (unpR q.1) q.1 q.2.2.1 q.2.2.2 q.2.1))
 else none
/-- the reply to a line, and the school behind it; none: not understood, or not possible -/
def repO (q : Sch4) (line : ByteArray) : Option (Sch4 × ByteArray) :=
 match numsO ((splitL 32 (bl line)).drop 1) with
 | some [] => rep0 q (str ((splitL 32 (bl line)).headD []))
 | some [n] => rep1 q (str ((splitL 32 (bl line)).headD [])) n
 | some [n, v] => rep2 q (str ((splitL 32 (bl line)).headD [])) n v
 | _ => none
theorem findI_mem {l : List R5} {id : Int} {r : R5} (hr : r ∈ l) (ha : r.a = id) : ∃ (k : Nat) (s : R5), findI l id = k ∧ l[k]? = some s := by
 rcases findI_cases l id with ⟨h1, h2⟩ | ⟨k, s, h1, h2, _, _⟩
 · obtain ⟨i, hi⟩ := List.mem_iff_getElem?.1 hr
   exact absurd ha (h2 i r (List.getElem?_eq_some_iff.1 hi).1 hi)
 · exact ⟨k, s, h1, h2⟩
theorem teach_id {day pa le : Int} {l : List R5} {i : Nat} {r : R5} {k v : Int} {L : List R5} {p q : Int} (hr : l[i]? = some r) (hk : k = 3 ∨ k = 4 ∨ k = 5) (h : teach day pa le l i r k v = some (L, p, q)) : ∃ s ∈ L, s.a = r.a := by
 have hi := (List.getElem?_eq_some_iff.1 hr).1
 have hm : ∀ s : R5, s ∈ l.set i s := fun s => List.mem_set hi s
 unfold teach at h
 rcases hk with rfl | rfl | rfl
 · simp only [if_pos] at h
   split at h
   · cases h
   · simp only [Option.some.injEq, Prod.mk.injEq] at h; rw [← h.1]; exact ⟨_, hm _, rfl⟩
 · simp only [if_pos] at h
   rw [if_neg (by omega)] at h
   split at h
   · cases h
   · split at h <;> (simp only [Option.some.injEq, Prod.mk.injEq] at h; rw [← h.1]; exact ⟨_, hm _, rfl⟩)
 · rw [if_neg (by omega), if_neg (by omega), if_pos rfl] at h
   split at h
   · cases h
   · simp only [Option.some.injEq, Prod.mk.injEq] at h; rw [← h.1]; exact ⟨_, hm _, rfl⟩
theorem stpQ_ok {q s : Sch4} {k id v : Int} (h : stpQ q k id v = some s) : schB s.1 s.2.1 s.2.2.1 s.2.2.2 = true := by
 unfold stpQ stepS at h
 rcases ht : tryS q.1 q.2.2.1 q.2.2.2 q.2.1 k id v with _ | y
 · rw [ht] at h; cases h
 · rw [ht, Option.filter_some] at h
   split at h
   · rename_i hs; injection h with h; rw [← h]; exact hs
   · cases h
/-- behind a step about a student the student is there -/
theorem stp_there {q s : Sch4} {k id v : Int} (hk : k = 2 ∨ k = 3 ∨ k = 4 ∨ k = 5) (h : stpQ q k id v = some s) : ∃ t, stuQ s id = some t := by
 have hok := stpQ_ok h
 have hmem : ∃ r ∈ s.2.1, r.a = id := by
  unfold stpQ stepS at h
  rcases ht : tryS q.1 q.2.2.1 q.2.2.2 q.2.1 k id v with _ | y
  · rw [ht] at h; cases h
  · rw [ht, Option.filter_some] at h
    split at h
    · injection h with h
      subst h
      unfold tryS at ht
      rw [if_neg (by omega)] at ht
      rcases hk with rfl | hk
      · rw [if_pos rfl] at ht
        split at ht
        · cases ht
        · injection ht with ht
          rw [← ht]
          exact ⟨_, insS_mem _ _ _ _, rfl⟩
      · rw [if_neg (by omega), if_pos (by omega)] at ht
        split at ht
        · cases ht
        · rename_i hf
          rcases findI_cases q.2.1 id with ⟨h1, _⟩ | ⟨i, r, h1, h2, h3, _⟩
          · omega
          · rw [h1] at ht
            simp only [Int.toNat_natCast, h2] at ht
            rcases hte : teach q.1 q.2.2.1 q.2.2.2 q.2.1 i r k v with _ | ⟨L, p, z⟩
            · rw [hte] at ht; cases ht
            · rw [hte] at ht
              simp only [Option.map_some] at ht
              injection ht with ht
              obtain ⟨u, hu, ha⟩ := teach_id h2 hk hte
              rw [← ht]
              exact ⟨u, hu, ha.trans h3⟩
    · cases h
 obtain ⟨r, hr, ha⟩ := hmem
 obtain ⟨i, u, h1, h2⟩ := findI_mem hr ha
 exact ⟨stuT u, stuO_hit hok h1 h2⟩
theorem hm_bound (day pa le : Int) (l : List R5) (id : Int) : 0 ≤ (hmO day pa le l id).getD 0 ∧ (hmO day pa le l id).getD 0 ≤ 1000 := by
 unfold hmO
 split
 · rename_i hs
   split
   · simp
   · rcases hr : l[(findI l id).toNat]? with _ | r
     · simp
     · obtain ⟨_, h2, h3, _, _⟩ := stu_bounds (sch_stu hs hr)
       simp only []
       split
       · simp
       · simp only [Option.getD_some]
         split <;> omega
 · simp
theorem selB_len (p : R5 → Bool) (day pa le : Int) (l : List R5) : (selB p day pa le l).length ≤ l.length := by
 unfold selB
 split
 · have := List.length_filter_le p l
   simp; omega
 · simp
theorem selB_small {p : R5 → Bool} {day pa le : Int} {l : List R5} (hs : schB day l pa le = true) : smallI (selB p day pa le l) := by
 intro z hz
 unfold selB at hz
 rw [if_pos hs] at hz
 rw [List.mem_map] at hz
 obtain ⟨r, hr, rfl⟩ := hz
 have hm := (List.mem_filter.1 hr).1
 obtain ⟨i, hi⟩ := List.mem_iff_getElem?.1 hm
 have := (stu_bounds (sch_stu hs hi)).1
 omega
end Go.Proofs.YtkcbgiegoadkbaaGreat
namespace Go.Proofs.YtkcbgiegoadkbaaGreat
open Go.RowKit
set_option linter.unusedVariables false
set_option linter.unusedSimpArgs false
/-- the reply comes back: the school, the text, and whether there is one -/
def RetRep (A : Option Addr) (n c : Nat) (l : List R5) (o : Option (Sch4 × ByteArray)) (w : World) (e : Ending) (w' : World) : Prop :=
 ∃ (A' : Option Addr) (N c' : Nat) (D P Q : Int) (L : List R5) (t : ByteArray), e = .returned (.tuple #[schV D A' N c' P Q, .string t, .bool o.isSome]) ∧ (∀ y, o = some y → y = ((D, L, P, Q), t) ∧ N = L.length ∧ (w'.ownsRow w.heap.size 111 5 (.slice A' N c') N (rowsV L) ∨ (A' = A ∧ c' = c ∧ N = n ∧ L = l))) ∧ Below w.heap.size w w'
theorem lit_no {s : ByteArray} {a : Array UInt8} {L : List UInt8} (h : s ≠ ⟨a⟩) (ha : a.toList = L) : (s.toList == L) = false := by
 have := ba_no h
 rw [← ha]
 rw [ByteArray.toList_eq] at this ⊢
 rw [ByteArray.toList_eq] at this
 exact this
theorem blk_id {w : World} {g : Nat} {t : TypeId} {cs : Array Value} (h : Blk w g t cs) : Blk w g t cs := h
theorem le_id {a b : Nat} (h : a ≤ b) : a ≤ b := h
theorem small2 {p q : Int} (hp : 0 ≤ p ∧ p ≤ 9999999) (hq : 0 ≤ q ∧ q ≤ 9999999) : smallI [p, q] := by
 intro z hz
 rcases List.mem_cons.1 hz with rfl | hz
 · omega
 · rcases List.mem_cons.1 hz with rfl | hz
   · omega
   · cases hz
theorem reads_two {w : World} {g : Nat} {p q : Int} (h : Blk w g 3 #[.int .i64 p, .int .i64 q]) : Reads w w.heap.size 1 (some ⟨g, 0, none⟩) 2 (intsV [p, q]) :=
 ⟨by simp [intsV], fun _ => ⟨g, 0, rfl, h.lt, fun j u hj => by
  rw [Nat.zero_add, h.cell]
  rcases j with _ | _ | j
  · simpa [intsV] using hj
  · simpa [intsV] using hj
  · simp [intsV] at hj⟩⟩
theorem oBounds (O : Option Sch4) (h : ∀ s, O = some s → schB s.1 s.2.1 s.2.2.1 s.2.2.2 = true) : (0 ≤ oD O ∧ oD O ≤ 4000) ∧ (0 ≤ oP O ∧ oP O ≤ 9999) ∧ (0 ≤ oQ O ∧ oQ O ≤ 9999) ∧ (oL O).length ≤ 8 := by
 rcases O with _ | ⟨d, l, p, q⟩
 · simp [oD, oP, oQ, oL]
 · have hs := h _ rfl
   have h1 := schB_day hs
   have h2 := schB_pa hs
   exact ⟨h1, h2.1, h2.2, schB_len hs⟩
set_option maxHeartbeats 1000000 in
theorem stepKind_any (s : ByteArray) (w : World) : Calls Tryz.prog 59 #[.string s] w fun e w' => e = .returned (.int .i64 (kindB s)) ∧ w = w' := by
 rcases kind_cases s with ⟨h, hs⟩ | ⟨h, hs⟩ | ⟨h, hs⟩ | ⟨h, hs⟩ | ⟨h, h1, h2, h3, h4⟩
 all_goals rw [h]
 · subst hs
   clear h
   go_enter Tryz.func59, Tryz.ntmps59
   go_wp2
   go_ret
   exact ⟨rfl, rfl⟩
 · subst hs
   clear h
   go_enter Tryz.func59, Tryz.ntmps59
   go_wp2
   go_ret
   exact ⟨rfl, rfl⟩
 · subst hs
   clear h
   go_enter Tryz.func59, Tryz.ntmps59
   go_wp2
   go_ret
   exact ⟨rfl, rfl⟩
 · subst hs
   clear h
   go_enter Tryz.func59, Tryz.ntmps59
   go_wp2
   go_ret
   exact ⟨rfl, rfl⟩
 · have b1 : (s.toList == [101, 110, 114, 111, 108]) = false := lit_no h1 rfl
   have b2 : (s.toList == [112, 114, 97, 99, 116, 105, 115, 101]) = false := lit_no h2 rfl
   have b3 : (s.toList == [101, 120, 97, 109]) = false := lit_no h3 rfl
   have b4 : (s.toList == [112, 97, 121]) = false := lit_no h4 rfl
   clear h h1 h2 h3 h4
   go_enter Tryz.func59, Tryz.ntmps59
   go_wp2
   go_ret
   exact ⟨rfl, rfl⟩
end Go.Proofs.YtkcbgiegoadkbaaGreat
namespace Go.Proofs.YtkcbgiegoadkbaaGreat
open Go.RowKit
set_option linter.unusedVariables false
set_option linter.unusedSimpArgs false
set_option maxRecDepth 100000 in
set_option maxHeartbeats 4000000 in
theorem reply_bad (day pa le : Int) (A : Option Addr) (n c : Nat) (l : List R5) (line : ByteArray) (w : World) (hn : n ≤ 8) (hA : SlOk A n c) (h : Reads w w.heap.size 5 A n (rowsV l)) (hs : schB day l pa le = true) (hline : line.size ≤ 16000) (hday : 0 ≤ day ∧ day ≤ 4000)
 (W : List (List UInt8)) (x0 : List UInt8) (word : ByteArray) (hW : splitL 32 (bl line) = W) (hx0 : W[0]? = some x0) (hwd : str x0 = word) (hvs : numsO (W.drop 1) = none) :
 Calls Tryz.prog 34 #[schV day A n c pa le, .string line] w (RetRep A n c l (none) w) := by
 have HSP := Lib.hid (show ∀ w : World, Calls Tryz.prog 57 #[.string line, .int .u8 32] w (RetSlice w 9 1 W.length (strsV W)) from fun w => by rw [← hW]; exact split_any line 32 w (by omega))
 obtain ⟨ib, xb, hib, hpb, hvp⟩ := numsO_bad _ hvs
 have hibl := (List.getElem?_eq_some_iff.1 hib).1
 have hWl : 1 ≤ W.length := by have := (List.getElem?_eq_some_iff.1 hx0).1; omega
 have hW8 : W.length ≤ 16001 := by
  have h1 := splitL_len 32 (bl line)
  have h2 := List.count_le_length (a := (32 : UInt8)) (l := bl line)
  rw [bl_size] at h2
  rw [hW] at h1
  omega
 have hmem : ∀ x ∈ W, (str x).size ≤ 16000 := fun x hx => by
  have h1 := splitL_mem 32 (bl line) x (by rw [hW]; exact hx)
  rw [bl_size] at h1
  have h2 : (str x).size = x.length := by rw [← bl_size, bl_str]
  omega
 have hdl : (W.drop 1).length = W.length - 1 := by simp
 obtain ⟨m, hm⟩ : ∃ m, W.length = m + 1 := ⟨W.length - 1, by omega⟩
 have hibm : ib < m := by omega
 have HV := Lib.hid hvp
 have HM := Lib.hid hm
 have HMEM := Lib.hid hmem
 have HX0 := Lib.hid hx0
 have HWD := Lib.hid hwd
 have H := Lib.hid h
 have HS := Lib.hid hs
 have hm16 : m ≤ 16000 := by omega
 rw [hm] at HSP
 obtain ⟨i0, hi, hz0, hz1, hz2⟩ := info_parts info_int
 have HIB := Lib.hid hib
 have HPB := Lib.hid hpb
 clear hib hpb hibl h hs hW hx0 hwd hvs hvp hWl hW8 hmem hdl hm
 go_enter Tryz.func34, Tryz.ntmps34
 go_wp2_with fail
 refine (HSP.out _).mono ?_
 rintro e w1 ⟨Aw, cw, rfl, how, hb1⟩
 obtain ⟨g, cap, hv, hgb, hglt⟩ := how.form (by omega)
 injection hv with hv _ hcap
 subst hv hcap
 have BX := Lib.hid (((Blk.new w #[.int .i64 day, .slice A n c, .int .i64 pa, .int .i64 le] 32).ext (ext_alloc (ext_refl _) (.cells #[.int .i64 0, .slice none 0 0, .int .i64 0, .int .i64 0] 32))).ext hb1)
 have BR : Hid (Blk w1 (w.heap.size + 1) 32 #[.int .i64 0, .slice none 0 0, .int .i64 0, .int .i64 0]) := Lib.hid (by
  have := (Blk.new (w.alloc (.cells #[.int .i64 day, .slice A n c, .int .i64 pa, .int .i64 le] 32)) #[.int .i64 0, .slice none 0 0, .int .i64 0, .int .i64 0] 32).ext hb1
  simpa using this)
 have hw1 := Lib.hid (ext_trans (ext_alloc (ext_alloc (ext_refl w) _) _) hb1)
 have s1 : w.heap.size + 1 < w1.heap.size := by have := hb1.size; simp at this; omega
 have hgs : w.heap.size + 1 < g := by simp at hgb; omega
 have hcw : m + 1 ≤ cw := own_cap3 how
 have HOW := Lib.hid (own_base (base' := 0) how (Nat.zero_le _))
 have HC0 : Hid (∀ (k : Nat) (x : List UInt8), W[k]? = some x → w1.cell? ⟨g, k, none⟩ = some (.string (str x))) := Lib.hid (fun k x hx => by
  rw [how.cellAt k (by have := (List.getElem?_eq_some_iff.1 hx).1; have := HM.out; omega)]
  simp [strsV, hx])
 clear hb1 how hgb
 go_upto_region 3 with fail
 go_cut [30, 31, 32] (fun s30 s31 s32 wx => ∃ (A2 : Option Addr) (c2 : Nat), s30 = .slice A2 m c2 ∧ s31 = .int .i64 m ∧ s32 = .int .i64 0 ∧ wx = w1 ∧ (0 < m → A2 = some ⟨g, 1, none⟩))
 case first =>
  by_cases hc1 : cw = 1
  · subst hc1
    obtain rfl : m = 0 := by omega
    go_wp2_with fail
    go_meet
    exact ⟨_, _, rfl, rfl, rfl, rfl, fun hm0 => absurd hm0 (by omega)⟩
  · go_wp2_with fail
    go_meet
    exact ⟨_, _, rfl, rfl, rfl, rfl, fun _ => rfl⟩
 case rest =>
 obtain ⟨A2, c2, rfl, rfl, rfl, rfl, hA2⟩ := hcut
 have HA2 := Lib.hid hA2
 clear hA2 hcw
 go_wp2_with fail
 go_loopw [8, 32] (fun v i wr => ∃ (k : Nat) (us : List Int), k ≤ ib ∧ i = .int .i64 k ∧ Hid (wr.ownsRow wc.heap.size 3 1 v k (intsV us)) ∧ Hid (Below wc.heap.size wc wr)) (fun _ i _ => m - (intOf i).toNat)
 case atStart => exact ⟨0, [], Nat.zero_le _, rfl, Lib.hid (World.ownsRow_nil _ _ _ _), Lib.hid (ext_refl _)⟩
 case round =>
  obtain ⟨k, us, hk, rfl, hown, HB⟩ := hrel
  have hkm : k < m := by omega
  by_cases hlt : k < ib
  · obtain ⟨x, hx⟩ := list_split (l := W) (k := 1 + k) (by rw [HM.out]; omega)
    obtain ⟨v, hp⟩ := HV.out k x hlt (by rw [List.getElem?_drop]; exact hx)
    have hxs := HMEM.out x (List.mem_of_getElem? hx)
    have HPI := Lib.hid (fun (w : World) => implParseInt_any (str x) w (by omega))
    rw [hp] at HPI
    have c0 := ext_cell HB.out (HC0.out (1 + k) x hx)
    have hgw : g < wr.heap.size := Nat.lt_of_lt_of_le hglt HB.out.size
    have hnew : Hid (intsV (us ++ [v]) = intsV us ++ [.int .i64 v]) := Lib.hid (by simp [intsV])
    have hA3 := HA2.out (by omega)
    subst hA3
    have m1 : k + 1 ≤ maxLen := by unfold maxLen; omega
    have m2 : (k + 1) * 8 ≤ 140737488355328 := by omega
    have hlt' : (k : Int) < (m : Int) := by omega
    clear hx hp
    go_wp2_with fail
    refine (HPI.out _).mono ?_
    rintro e w5 ⟨rfl, hb⟩
    have hown5 := Lib.hid (own_ext hown.out hb)
    have HB5 := Lib.hid (ext_trans HB.out hb)
    have hSome : (some v).isSome = true := rfl
    clear hb c0
    go_wp2_with (at_builtin; refine wpList_append_own _ rfl (.tmp 44) (.tmp 46) 53 rfl wc.heap.size 3 i0 _ 1 8 Tryz.underlying53 hi hz0 hz1 hz2 rfl (by decide) _ _ _ rfl (hown5.out.alloc _) _ 1 1 [.int .i64 v] rfl rfl (cell_one_at _ _ _ (by simp)) (by simp [Value.oneCell']) m1 m2 (by have := HB5.out.size; simp; omega) ?_; intro v' w2 hown2 hgrow _)
    go_roundw
    case rel =>
     refine ⟨k + 1, us ++ [v], by omega, by go_num, ?_, Lib.hid (below_grown hown5.out (ext_alloc HB5.out _) hgrow)⟩
     refine Lib.hid ?_
     rw [hnew.out]
     exact hown2
    case measure => simp [intOf]; omega
  · obtain rfl : k = ib := by omega
    have hx := HIB.out
    rw [List.getElem?_drop] at hx
    have hxs := HMEM.out xb (List.mem_of_getElem? hx)
    have HPI := Lib.hid (fun (w : World) => implParseInt_any (str xb) w (by omega))
    rw [HPB.out] at HPI
    have c0 := ext_cell HB.out (HC0.out (1 + k) xb hx)
    have hgw : g < wr.heap.size := Nat.lt_of_lt_of_le hglt HB.out.size
    have hA3 := HA2.out (by omega)
    subst hA3
    have hlt' : (k : Int) < (m : Int) := by omega
    have BXr := Lib.hid (BX.out.ext HB.out)
    have BRr := Lib.hid (BR.out.ext HB.out)
    have hwr := Lib.hid (ext_trans hw1.out HB.out)
    clear hx
    go_wp2_with fail
    refine (HPI.out _).mono ?_
    rintro e w5 ⟨rfl, hb5⟩
    have hNone : (none : Option Int).isSome = false := rfl
    have BX5 := Lib.hid (BXr.out.ext hb5)
    have BR5 := Lib.hid (BRr.out.ext hb5)
    have hw5 := Lib.hid (ext_trans hwr.out hb5)
    have s5 := hb5.size
    have hg5 : g < w5.heap.size := by omega
    have sX5 := BX5.out.lt
    have sR5 := BR5.out.lt
    obtain ⟨x50, x51, x52, x53⟩ := BX5.out.q4
    obtain ⟨y50, y51, y52, y53⟩ := BR5.out.q4
    obtain ⟨fy50, fy51, fy52, fy53⟩ := BR5.out.z4
    clear c0 hb5
    go_wp2
    refine bodyPost_ret (v := .tuple #[schV day A n c pa le, .string (⟨#[]⟩), .bool false]) (by simp [results, Tryz.results34, go_sem, *]) rfl ?_
    refine ⟨A, n, c, day, pa, le, l, ⟨#[]⟩, rfl, (fun y hy => nomatch hy), ?_⟩
    iterate 4 refine ext_set ?_ (by show w.heap.size ≤ w.heap.size + 1; omega) _
    exact hw5.out
end Go.Proofs.YtkcbgiegoadkbaaGreat
namespace Go.Proofs.YtkcbgiegoadkbaaGreat
open Go.RowKit
set_option linter.unusedVariables false
set_option linter.unusedSimpArgs false
theorem texts_len {w : World} {B n : Nat} {A : Option Addr} {ps : List ByteArray} (h : Reads w B 1 A n (textsV ps)) : ps.length = n := by have := h.1; simp [textsV] at this; omega
end Go.Proofs.YtkcbgiegoadkbaaGreat
