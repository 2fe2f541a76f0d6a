/- A law's argument that is a record (two texts) or a log (two texts, a count). -/
import Derived.Test.YtdielldikdmjpaaLaw
namespace Go.Proofs.Ytdielldikdmjpaa
open Go.ChangeShapes Go.WideShapes Go.ChangeAt Go.RowKit Go.Deep Go.Joins
theorem open_rec {H : Type} {enc : TypeId × Value → H} {w : World} {base b0 : Nat} {spare : Nat → Bool} {held : Bool} {r : Reach} {v : Value} {d : DataW H} {p : List MemPlace}
    (hv : Value.okWide Try.prog w r b0 23 v) (h : DataW.Trod enc Try.prog w base spare held 23 v d p) :
    ∃ c q : ByteArray, v = .agg #[.string c, .string q] ∧ c.size ≤ maxLen ∧ q.size ≤ maxLen := by
  obtain ⟨c0, c1, y0, y1, n, rfl, rfl, rfl, t0, t1⟩ := open_agg2 Try.underlying23 (by kernel_rfl) (by kernel_rfl) hv h
  obtain ⟨c, e0, _, wc⟩ := DataW.trod_string Try.underlying9 t0
  obtain ⟨q, e1, _, wq⟩ := DataW.trod_string Try.underlying9 t1
  simp at e0 e1
  subst e0 e1
  exact ⟨c, q, rfl, wc, wq⟩
theorem open_log {H : Type} {enc : TypeId × Value → H} {w : World} {base b0 : Nat} {spare : Nat → Bool} {held : Bool} {r : Reach} {v : Value} {d : DataW H} {p : List MemPlace} (hv : Value.okWide Try.prog w r b0 38 v) (h : DataW.Trod enc Try.prog w base spare held 38 v d p) : ∃ (a b : ByteArray) (z : Int), v = .agg #[.string a, .string b, .int .i64 z] ∧ a.size ≤ maxLen ∧ b.size ≤ maxLen ∧ -9223372036854775808 ≤ z ∧ z ≤ 9223372036854775807 := by
  obtain ⟨c0, c1, c2, y0, y1, y2, n, rfl, rfl, rfl, t0, t1, t2⟩ := open_agg3 Try.underlying38 (by kernel_rfl) (by kernel_rfl) hv h
  obtain ⟨a, e0, _, wa⟩ := DataW.trod_string Try.underlying9 t0
  obtain ⟨b, e1, _, wb⟩ := DataW.trod_string Try.underlying9 t1
  obtain ⟨z, e2, _, wz⟩ := DataW.trod_int Try.underlying3 t2
  simp at e0 e1 e2
  subst e0 e1 e2
  have hz : -9223372036854775808 ≤ z ∧ z ≤ 9223372036854775807 := by simpa [Lit.wf, IntKind.min, IntKind.max, IntKind.signed, IntKind.bits] using wz
  exact ⟨a, b, z, rfl, wa, wb, hz.1, hz.2⟩
end Go.Proofs.Ytdielldikdmjpaa
