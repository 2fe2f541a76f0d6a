
/- Numbers as texts: what 'text' and 'l1Num' write. -/
import Derived.Test.YtkgeiemelhkkcaaBase
import Derived.Laws.DeepStrings4
import Derived.Laws.BytesArg
namespace Go.Proofs.Ytkgeiemelhkkcaa
open Go.RowKit
set_option linter.unusedVariables false
set_option linter.unusedSimpArgs false
def dig (n : Nat) : UInt8 := UInt8.ofNat (48 + n)
def decF : Nat → Nat → List UInt8
  | 0, _ => []
  | f + 1, n => if n < 10 then [dig n] else decF f (n / 10) ++ [dig (n % 10)]
theorem decF_more : ∀ (f n : Nat), n < 10 ^ f → decF (f + 1) n = decF f n ∨ f = 0 := by
  intro f
  induction f with
  | zero => intro n _; exact .inr rfl
  | succ f ih =>
    intro n hn
    refine .inl ?_
    by_cases h : n < 10
    · simp [decF, h]
    · have hq : n / 10 < 10 ^ f := by rw [Nat.pow_succ] at hn; omega
      rcases ih (n / 10) hq with e | e
      · have h1 : decF (f + 1 + 1) n = decF (f + 1) (n / 10) ++ [dig (n % 10)] := by rw [decF, if_neg h]
        have h2 : decF (f + 1) n = decF f (n / 10) ++ [dig (n % 10)] := by rw [decF, if_neg h]
        rw [h1, h2, e]
      · subst e; simp at hn; omega
/-- the decimal text of a number -/
def dec (n : Nat) : ByteArray := ⟨(decF 20 n).toArray⟩
def decI (z : Int) : ByteArray := if z < 0 then ⟨#[45]⟩ ++ dec (-z).toNat else dec z.toNat
theorem dec_small {n : Nat} (h : n < 10) : dec n = ⟨#[dig n]⟩ := by simp [dec, decF, h]
theorem ba_mk (l m : List UInt8) : (⟨(l ++ m).toArray⟩ : ByteArray) = ⟨l.toArray⟩ ++ ⟨m.toArray⟩ := by
  apply ByteArray.ext
  simp
theorem dec_step {n : Nat} (h : 10 ≤ n) (hn : n ≤ 9223372036854775807) : dec n = dec (n / 10) ++ ⟨#[dig (n % 10)]⟩ := by
  have h1 : ¬ n < 10 := by omega
  have hq : n / 10 < 10 ^ 19 := by omega
  rcases decF_more 19 (n / 10) hq with e | e
  · have : decF 20 n = decF 20 (n / 10) ++ [dig (n % 10)] := by rw [e]; rw [decF, if_neg h1]
    unfold dec
    rw [this, ba_mk]
  · cases e
theorem decF_len (f n : Nat) : (decF f n).length ≤ f := by
  induction f generalizing n with
  | zero => simp [decF]
  | succ f ih =>
    rw [decF]
    split
    · simp
    · have := ih (n / 10); simp; omega
theorem dec_size (n : Nat) : (dec n).size ≤ 20 := by
  have := decF_len 20 n
  simpa [dec, ByteArray.size] using this
theorem decI_size (z : Int) : (decI z).size ≤ 21 := by
  unfold decI
  split
  · have := dec_size (-z).toNat
    rw [ByteArray.size_append]
    have : (⟨#[45]⟩ : ByteArray).size = 1 := rfl
    omega
  · have := dec_size z.toNat
    omega
theorem digit_text {d : Nat} (h : d < 10) : (⟨#[48, 49, 50, 51, 52, 53, 54, 55, 56, 57]⟩ : ByteArray).extract d (d + 1) = ⟨#[dig d]⟩ := by
  match d, h with
  | 0, _ => rfl
  | 1, _ => rfl
  | 2, _ => rfl
  | 3, _ => rfl
  | 4, _ => rfl
  | 5, _ => rfl
  | 6, _ => rfl
  | 7, _ => rfl
  | 8, _ => rfl
  | 9, _ => rfl
  | d + 10, h => omega
theorem run_digit {P : Program} {t : TypeId} (ht : P.underlying t = some .string) {z : Int} (h0 : 0 ≤ z) (h : z < 10) (w : World) :
    (Instr.slice t (.string ⟨#[48, 49, 50, 51, 52, 53, 54, 55, 56, 57]⟩) (some (.int .i64 z)) (some (.int .i64 (z + 1))) none).run P w = .ok (.string ⟨#[dig z.toNat]⟩) w := by
  obtain ⟨d, rfl⟩ := Int.eq_ofNat_of_zero_le h0
  have hs : (⟨#[48, 49, 50, 51, 52, 53, 54, 55, 56, 57]⟩ : ByteArray).size = 10 := rfl
  rw [run_slice_string_if w t _ _ _ _ _ ht, hs, if_pos (by omega), if_pos (by omega), show ((d : Int) + 1).toNat = d + 1 from by omega, Int.toNat_natCast, digit_text (by omega)]
/-- a text of one digit, made of a slice of one byte -/
theorem run_one_byte {P : Program} (w : World) {src dst e : TypeId} (hs : P.underlying src = some (.slice e)) (he : P.underlying e = some (.int .u8)) (hd : P.underlying dst = some .string) (d : Nat) :
    (convert src dst (.slice (some ⟨w.heap.size, 0, none⟩) 1 1)).run P (w.alloc (.cells #[.int .u8 (48 + (d : Int))] e)) = .ok (.string ⟨#[dig d]⟩) (w.alloc (.cells #[.int .u8 (48 + (d : Int))] e)) := by
  have h := run_convert_bytes_arg (P := P) (w.alloc (.cells #[.int .u8 (48 + (d : Int))] e)) src e hs he w.heap.size 0 1 1 [48 + (d : Int)] rfl (fun i hi => by
    obtain rfl : i = 0 := by omega
    rw [World.cell?_alloc_at _ _ _ _ rfl]; rfl) dst hd
  rw [h]
  simp only [strOfNums, dig, List.map_cons, List.map_nil, show ((48 : Int) + (d : Int)).toNat = 48 + d from by omega]
end Go.Proofs.Ytkgeiemelhkkcaa
