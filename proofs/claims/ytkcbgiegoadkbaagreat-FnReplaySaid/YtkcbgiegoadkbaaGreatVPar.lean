/- Reading a number, plainly. -/
import Derived.Test.YtkcbgiegoadkbaaGreatVM1
namespace Go.Proofs.YtkcbgiegoadkbaaGreat
open Go.RowKit
set_option linter.unusedVariables false
set_option linter.unusedSimpArgs false
def isD (c : UInt8) : Bool := decide (48 ≤ c.toNat ∧ c.toNat ≤ 57)
def valL (l : List UInt8) : Nat := l.foldl (fun n c => 10 * n + (c.toNat - 48)) 0
theorem valL_snoc (l : List UInt8) (c : UInt8) : valL (l ++ [c]) = 10 * valL l + (c.toNat - 48) := by simp [valL]
/-- digits, not too many, no 0 ahead: as the program asks -/
def numO (l : List UInt8) : Option Nat := if l.length = 0 ∨ 9 < l.length ∨ (l[0]? = some 48 ∧ 1 < l.length) ∨ l.all isD = false then none else some (valL l)
def parB (l : List UInt8) : Bool := decide (l[0]? = some 45)
def parT (l : List UInt8) : List UInt8 := if parB l = true then l.drop 1 else l
def parO (s : ByteArray) : Option Int :=
 match numO (parT (bl s)) with
 | none => none
 | some n => if 999999 < n ∨ (n = 0 ∧ parB (bl s) = true) then none else some (if parB (bl s) = true then -(n : Int) else n)
def parV (o : Option Int) : Int := o.getD 0
theorem valL_lt : ∀ (k : Nat) (l : List UInt8), l.length = k → l.all isD = true → valL l < 10 ^ k := by
 intro k
 induction k with
 | zero => intro l h _; have : l = [] := List.eq_nil_of_length_eq_zero h; subst this; simp [valL]
 | succ k ih =>
   intro l h hd
   obtain ⟨u, c, rfl⟩ : ∃ u c, l = u ++ [c] := ⟨l.dropLast, l.getLast (by intro e; simp [e] at h), (List.dropLast_concat_getLast _).symm⟩
   simp only [List.all_append, Bool.and_eq_true, List.all_cons, List.all_nil, Bool.and_true] at hd
   have := ih u (by simpa using h) hd.1
   have hc := hd.2
   simp only [isD, decide_eq_true_eq] at hc
   rw [valL_snoc, Nat.pow_succ]
   omega
theorem valL_ge : ∀ (k : Nat) (l : List UInt8), l.length = k + 1 → l.all isD = true → l[0]? ≠ some 48 → 10 ^ k ≤ valL l := by
 intro k
 induction k with
 | zero =>
   intro l h hd h0
   match l, h with
   | [c], _ =>
     simp only [List.all_cons, List.all_nil, Bool.and_true, isD, decide_eq_true_eq] at hd
     simp at h0
     have : c.toNat ≠ 48 := fun e => h0 (UInt8.toNat_inj.1 (by simpa using e))
     simp [valL]
     omega
 | succ k ih =>
   intro l h hd h0
   obtain ⟨u, c, rfl⟩ : ∃ u c, l = u ++ [c] := ⟨l.dropLast, l.getLast (by intro e; simp [e] at h), (List.dropLast_concat_getLast _).symm⟩
   simp only [List.all_append, Bool.and_eq_true, List.all_cons, List.all_nil, Bool.and_true] at hd
   have hu : u.length = k + 1 := by simpa using h
   have := ih u hu hd.1 (by rwa [List.getElem?_append_left (by omega)] at h0)
   rw [valL_snoc, Nat.pow_succ]
   omega
theorem dig_val {c : UInt8} (h : isD c = true) : dig (c.toNat - 48) = c := by
 simp only [isD, decide_eq_true_eq] at h
 unfold dig
 rw [show 48 + (c.toNat - 48) = c.toNat from by omega]
 simp
theorem dec_valL : ∀ (k : Nat) (l : List UInt8), l.length = k + 1 → k < 18 → l.all isD = true → (l[0]? ≠ some 48 ∨ k = 0) → dec (valL l) = str l := by
 intro k
 induction k with
 | zero =>
   intro l h _ hd _
   match l, h with
   | [c], _ =>
     have hc : isD c = true := by simpa using hd
     have h1 : valL [c] = c.toNat - 48 := by simp [valL]
     have h2 : c.toNat - 48 < 10 := by simp only [isD, decide_eq_true_eq] at hc; omega
     rw [h1, dec_small h2, dig_val hc]
     rfl
 | succ k ih =>
   intro l h hk hd h0
   have h0 : l[0]? ≠ some 48 := by rcases h0 with h | h; exact h; omega
   obtain ⟨u, c, rfl⟩ : ∃ u c, l = u ++ [c] := ⟨l.dropLast, l.getLast (by intro e; simp [e] at h), (List.dropLast_concat_getLast _).symm⟩
   have hlt := valL_lt _ _ rfl hd
   simp only [List.all_append, Bool.and_eq_true, List.all_cons, List.all_nil, Bool.and_true] at hd
   have hu : u.length = k + 1 := by simpa using h
   have hu0 : u[0]? ≠ some 48 := by rwa [List.getElem?_append_left (by omega)] at h0
   have hge := valL_ge k u hu hd.1 hu0
   have hp : 0 < 10 ^ k := Nat.pow_pos (by omega)
   have hc := hd.2
   have hcd : c.toNat - 48 < 10 := by simp only [isD, decide_eq_true_eq] at hc; omega
   have hbig : (10 : Nat) ^ (u ++ [c]).length ≤ 10 ^ 18 := Nat.pow_le_pow_right (by omega) (by simp; omega)
   rw [valL_snoc] at hlt ⊢
   rw [dec_step (by omega) (by omega), show (10 * valL u + (c.toNat - 48)) / 10 = valL u from by omega, show (10 * valL u + (c.toNat - 48)) % 10 = c.toNat - 48 from by omega, dig_val hc, ih u hu (by omega) hd.1 (.inl hu0)]
   unfold str
   rw [ba_mk]
theorem decF_head : ∀ (f n : Nat), 1 ≤ n → n < 10 ^ f → ∃ c, (decF f n)[0]? = some c ∧ c ≠ 48 := by
 intro f
 induction f with
 | zero => intro n h1 h2; simp at h2; omega
 | succ f ih =>
   intro n h1 h2
   by_cases h : n < 10
   · refine ⟨dig n, by simp [decF, h], ?_⟩
     match n, h1, h with
     | 1, _, _ => decide
     | 2, _, _ => decide
     | 3, _, _ => decide
     | 4, _, _ => decide
     | 5, _, _ => decide
     | 6, _, _ => decide
     | 7, _, _ => decide
     | 8, _, _ => decide
     | 9, _, _ => decide
   · obtain ⟨c, hc, hne⟩ := ih (n / 10) (by omega) (by rw [Nat.pow_succ] at h2; omega)
     refine ⟨c, ?_, hne⟩
     rw [decF, if_neg h, List.getElem?_append_left (List.getElem?_eq_some_iff.1 hc).1]
     exact hc
theorem bl_decP (n : Nat) : bl (dec n) = decF 20 n := by simp [bl, dec]
/-- what is written of the number read is the text: just if no 0 stands ahead -/
theorem dec_back {l : List UInt8} (h1 : 1 ≤ l.length) (h2 : l.length ≤ 9) (hd : l.all isD = true) : dec (valL l) = str l ↔ ¬ (l[0]? = some 48 ∧ 1 < l.length) := by
 constructor
 · rintro he ⟨h0, hl⟩
   have hlt := valL_lt _ _ rfl hd
   have hbig : (10 : Nat) ^ l.length ≤ 10 ^ 9 := Nat.pow_le_pow_right (by omega) h2
   have hb := congrArg bl he
   rw [bl_decP, bl_str] at hb
   by_cases hz : valL l = 0
   · rw [hz] at hb
     have := congrArg List.length hb
     simp [decF] at this
     omega
   · obtain ⟨c, hc, hne⟩ := decF_head 20 (valL l) (by omega) (by omega)
     rw [hb, h0] at hc
     injection hc with hc
     exact hne hc.symm
 · intro h
   obtain ⟨k, hk⟩ : ∃ k, l.length = k + 1 := ⟨l.length - 1, by omega⟩
   refine dec_valL k l hk (by omega) hd ?_
   by_cases h0 : l[0]? = some 48
   · right
     have : ¬ 1 < l.length := fun e => h ⟨h0, e⟩
     omega
   · exact .inl h0
/-- what the reference reads -/
def refT (l : List UInt8) : List UInt8 := if parB l = true ∧ 1 < l.length then l.drop 1 else l
theorem refT_len (l : List UInt8) : (refT l).length = if parB l = true ∧ 1 < l.length then l.length - 1 else l.length := by
 unfold refT; split <;> simp
theorem parT_of {l : List UInt8} (h : parB l = true ∧ 1 < l.length) : parT l = refT l := by simp [parT, refT, h]
theorem parT_not {l : List UInt8} (h : parB l = false) : parT l = refT l := by simp [parT, refT, h]
theorem numO_none {l : List UInt8} (h : l.length = 0 ∨ 9 < l.length ∨ (l[0]? = some 48 ∧ 1 < l.length) ∨ l.all isD = false) : numO l = none := if_pos h
theorem parO_none {s : ByteArray} (h : numO (parT (bl s)) = none) : parO s = none := by simp [parO, h]
theorem isD_minus : isD 45 = false := by decide
theorem par_one {l : List UInt8} (hb : parB l = true) (h : ¬ 1 < l.length) : l = [45] := by
 simp only [parB, decide_eq_true_eq] at hb
 match l, hb with
 | [c], hb => simpa using hb
 | c :: d :: l, _ => simp at h
theorem ref_size {s : ByteArray} (h : (refT (bl s)).length < 1 ∨ 6 < (refT (bl s)).length) : parO s = none := by
 by_cases hb : parB (bl s) = true
 · by_cases h1 : 1 < (bl s).length
   · rw [← parT_of ⟨hb, h1⟩] at h
     rcases hn : numO (parT (bl s)) with _ | n
     · exact parO_none hn
     · have hn' := hn
       unfold numO at hn
       split at hn
       · cases hn
       · rename_i hc
         simp only [not_or] at hc
         injection hn with hn
         have hge := valL_ge ((parT (bl s)).length - 1) (parT (bl s)) (by omega) (by simpa using hc.2.2.2) (by
          intro e
          exact hc.2.2.1 ⟨e, by omega⟩)
         have hbig : (10 : Nat) ^ 6 ≤ 10 ^ ((parT (bl s)).length - 1) := Nat.pow_le_pow_right (by omega) (by omega)
         unfold parO
         rw [hn']
         simp only []
         rw [if_pos (.inl (by omega))]
   · have e := par_one hb h1
     refine parO_none (numO_none (.inl ?_))
     rw [parT, if_pos hb, e]; rfl
 · have hb' : parB (bl s) = false := by simpa using hb
   rw [← parT_not hb'] at h
   rcases hn : numO (parT (bl s)) with _ | n
   · exact parO_none hn
   · have hn' := hn
     unfold numO at hn
     split at hn
     · cases hn
     · rename_i hc
       simp only [not_or] at hc
       injection hn with hn
       have hge := valL_ge ((parT (bl s)).length - 1) (parT (bl s)) (by omega) (by simpa using hc.2.2.2) (by
        intro e
        exact hc.2.2.1 ⟨e, by omega⟩)
       have hbig : (10 : Nat) ^ 6 ≤ 10 ^ ((parT (bl s)).length - 1) := Nat.pow_le_pow_right (by omega) (by omega)
       unfold parO
       rw [hn']
       simp only []
       rw [if_pos (.inl (by omega))]
theorem ref_dig {s : ByteArray} (h : (refT (bl s)).all isD = false) : parO s = none := by
 by_cases hb : parB (bl s) = true
 · by_cases h1 : 1 < (bl s).length
   · exact parO_none (numO_none (.inr (.inr (.inr (by rw [parT_of ⟨hb, h1⟩]; exact h)))))
   · have e := par_one hb h1
     refine parO_none (numO_none (.inl ?_))
     rw [parT, if_pos hb, e]; rfl
 · have hb' : parB (bl s) = false := by simpa using hb
   exact parO_none (numO_none (.inr (.inr (.inr (by rw [parT_not hb']; exact h)))))
theorem refT_all {l : List UInt8} (h : (refT l).all isD = true) : (parB l = true ∧ 1 < l.length) ∨ parB l = false := by
 by_cases hb : parB l = true
 · by_cases h1 : 1 < l.length
   · exact .inl ⟨hb, h1⟩
   · have e := par_one hb h1
     rw [e] at h
     exact absurd h (by decide)
 · exact .inr (by simpa using hb)
/-- the number that the reference has read -/
def refZ (l : List UInt8) : Int := if parB l = true ∧ 1 < l.length then -(valL (refT l) : Int) else valL (refT l)
theorem par_cons {s : ByteArray} (hb : parB (bl s) = true) : s = ⟨#[45]⟩ ++ str ((bl s).drop 1) := by
 apply bl_inj
 rw [bl_append, bl_str]
 simp only [parB, decide_eq_true_eq] at hb
 match hl : bl s, hb with
 | c :: l, hb =>
   simp at hb
   subst hb
   rfl
theorem ref_yes {s : ByteArray} (h1 : 1 ≤ (refT (bl s)).length) (h6 : (refT (bl s)).length ≤ 6) (hd : (refT (bl s)).all isD = true) :
 parO s = if decI (refZ (bl s)) = s then some (refZ (bl s)) else none := by
 have hlt := valL_lt _ _ rfl hd
 have hbig : (10 : Nat) ^ (refT (bl s)).length ≤ 10 ^ 6 := Nat.pow_le_pow_right (by omega) h6
 have hback := dec_back h1 (by omega) hd
 rcases refT_all hd with hb | hb
 · have ht := parT_of hb
   have hz : refZ (bl s) = -(valL (refT (bl s)) : Int) := if_pos hb
   have hs := par_cons hb.1
   have hr : (bl s).drop 1 = refT (bl s) := by simp [refT, hb]
   rw [hr] at hs
   rw [hz]
   generalize refT (bl s) = t at *
   by_cases h0 : valL t = 0
   · have hne : ¬ decI (-(valL t : Int)) = s := by
      intro e
      rw [h0] at e
      rw [hs] at e
      have := congrArg bl e
      simp [bl, decI, dec, decF, ByteArray.data_append] at this
      exact absurd this.1 (by decide)
     rw [if_neg hne]
     unfold parO
     rw [ht]
     rcases hn : numO t with _ | n
     · rfl
     · unfold numO at hn
       split at hn
       · cases hn
       · injection hn with hn
         simp only []
         rw [if_pos (.inr ⟨by omega, hb.1⟩)]
   · have hdz : decI (-(valL t : Int)) = ⟨#[45]⟩ ++ dec (valL t) := by
      unfold decI; rw [if_pos (by omega)]; congr 2; omega
     have hiff : decI (-(valL t : Int)) = s ↔ dec (valL t) = str t := by
      rw [hdz]
      constructor
      · intro e
        rw [hs] at e
        have := congrArg bl e
        rw [bl_append, bl_append] at this
        exact bl_inj (List.append_cancel_left this)
      · intro e
        rw [e]; exact hs.symm
     unfold parO
     rw [ht]
     by_cases hc : t[0]? = some 48 ∧ 1 < t.length
     · rw [numO_none (.inr (.inr (.inl hc))), if_neg (fun e => hback.1 (hiff.1 e) hc)]
     · have hn : numO t = some (valL t) := by
        unfold numO; rw [if_neg]; simp only [not_or]
        exact ⟨by omega, by omega, hc, by simp [hd]⟩
       rw [hn, if_pos (hiff.2 (hback.2 hc))]
       simp only []
       rw [if_neg (by omega), if_pos hb.1]
 · have ht := parT_not hb
   have hz : refZ (bl s) = (valL (refT (bl s)) : Int) := if_neg (by simp [hb])
   have hr : refT (bl s) = bl s := by simp [refT, hb]
   have hs : str (refT (bl s)) = s := by rw [hr, str_bl]
   rw [hz]
   generalize refT (bl s) = t at *
   have hdz : decI ((valL t : Nat) : Int) = dec (valL t) := by
    unfold decI; rw [if_neg (by omega), Int.toNat_natCast]
   rw [hdz]
   unfold parO
   rw [ht]
   by_cases hc : t[0]? = some 48 ∧ 1 < t.length
   · rw [numO_none (.inr (.inr (.inl hc))), if_neg (fun e => hback.1 (e.trans hs.symm) hc)]
   · have hn : numO t = some (valL t) := by
      unfold numO; rw [if_neg]; simp only [not_or]
      exact ⟨by omega, by omega, hc, by simp [hd]⟩
     rw [hn, if_pos ((hback.2 hc).trans hs)]
     simp only []
     rw [if_neg (by simp [hb]; omega), if_neg (by simp [hb])]
end Go.Proofs.YtkcbgiegoadkbaaGreat
