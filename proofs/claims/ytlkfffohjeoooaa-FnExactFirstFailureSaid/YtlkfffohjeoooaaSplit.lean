
/- split and l1Split cut a text at each place of a byte. -/
import Derived.Test.YtlkfffohjeoooaaBytes
import Derived.Test.YtlkfffohjeoooaaLawAid
namespace Go.Proofs.Ytlkfffohjeoooaa
open Go.RowKit
set_option linter.unusedVariables false
set_option linter.unusedSimpArgs false
theorem info_str : (Try.prog.info? 9).map (fun i => (i.zero, i.size, i.bytes)) = some (some (.string ⟨#[]⟩), 1, 16) := by kernel_rfl
theorem cell_one_new' (w : World) (v : Value) (e : TypeId) : ∀ j u, [v][j]? = some u → (w.alloc (.cells #[v] e)).cell? ((⟨w.heap.size, 0, none⟩ : Addr).add j) = some u := by
  intro j u hj
  match j, hj with
  | 0, hj => simp at hj; subst hj; rw [add_flat, World.cell?_alloc_at _ _ _ _ rfl]; rfl
  | j + 1, hj => simp at hj
theorem cell_one_at (w : World) (v : Value) (e : TypeId) {H : Nat} (hH : H = w.heap.size) : ∀ j u, [v][j]? = some u → (w.alloc (.cells #[v] e)).cell? ((⟨H, 0, none⟩ : Addr).add j) = some u := by
  subst hH; exact cell_one_new' w v e
theorem str_extract (s : ByteArray) (f i : Nat) : s.extract f i = str (((bl s).take i).drop f) := by
  rw [← bl_extract, str_bl]
set_option maxHeartbeats 1000000 in
theorem split_any (s : ByteArray) (b : UInt8) (w : World) (hs : s.size ≤ 16777216) :
    Calls Try.prog 127 #[.string s, .int .u8 (b.toNat : Int)] w (RetSlice w 9 1 (splitL b (bl s)).length (strsV (splitL b (bl s)))) := by
  obtain ⟨i0, hi, hz0, hz1, hz2⟩ := info_parts info_str
  have ho := World.ownsRow_nil w w.heap.size 9 1
  have hlb := bl_size s
  have HB := Lib.hid hlb
  clear hlb
  go_enter Try.func127, Try.ntmps127
  go_wp2
  go_loopw [5, 6, 7] (fun v fr i wr => ∃ (f k : Nat) (P : List (List UInt8)), k ≤ s.size ∧ f ≤ k ∧ P.length ≤ f ∧ i = .int .i64 k ∧ fr = .int .i64 f ∧ wr.ownsRow w.heap.size 9 1 v P.length (strsV P) ∧ Below w.heap.size w wr ∧ Hid (splitAt b (bl s) P f k)) (fun _ _ i _ => s.size - (intOf i).toNat)
  case atStart => exact ⟨0, 0, [], by omega, by omega, by simp, rfl, rfl, ho, (by repeat (first | exact ext_refl _ | assumption | refine ext_alloc ?_ _ | refine ext_drew ?_ | refine ext_drewN ?_ _ | refine ext_set ?_ (by simp <;> omega) _ | refine ext_trans ?_ (by assumption))), Lib.hid (splitAt_start b (bl s))⟩
  case round =>
    obtain ⟨f, k, P, hk, hfk, hPf, rfl, rfl, hown, hbl, hat⟩ := hrel
    have m1 : P.length + 1 ≤ maxLen := by unfold maxLen; omega
    have m2 : (P.length + 1) * 16 ≤ 140737488355328 := by omega
    have m3 := hbl.size
    by_cases hlt : k < s.size
    · have hget := bl_get hlt
      by_cases heq : s[k] = b
      · have hd : ((s[k].toNat : Int) == (b.toNat : Int)) = true := by simp [heq]
        have hnew := Lib.hid (splitAt_hit hat.out (by rw [hget, heq]))
        have hex := Lib.hid (str_extract s f k)
        clear hget heq
        go_wp2_with (at_builtin; refine wpList_append_own _ rfl (.tmp 19) (.tmp 24) 98 rfl w.heap.size 9 i0 _ 1 16 Try.underlying98 hi hz0 hz1 hz2 rfl (by decide) _ _ _ rfl (hown.alloc _) _ 1 1 [.string (s.extract f k)] rfl rfl (cell_one_at _ _ _ rfl) (by simp [Value.oneCell']) m1 m2 (by simp; omega) ?_; intro v' w2 hown2 hgrow _)
        go_roundw
        case rel =>
          refine ⟨k + 1, k + 1, P ++ [((bl s).take k).drop f], by omega, by omega, by simp; omega, by go_num, by go_num, ?_, below_grown hown (by repeat (first | exact ext_refl _ | assumption | refine ext_alloc ?_ _ | refine ext_drew ?_ | refine ext_drewN ?_ _ | refine ext_set ?_ (by simp <;> omega) _ | refine ext_trans ?_ (by assumption))) hgrow, hnew⟩
          have e : strsV (P ++ [((bl s).take k).drop f]) = strsV P ++ [.string (s.extract f k)] := by rw [hex.out]; simp [strsV]
          rw [e, List.length_append]
          exact hown2
        case measure => simp [intOf]; omega
      · have hd : ((s[k].toNat : Int) == (b.toNat : Int)) = false := by
          rw [beq_eq_false_iff_ne]
          intro e
          exact heq (UInt8.toNat_inj.1 (by omega))
        have hnew := Lib.hid (splitAt_miss hat.out hget heq)
        clear hget heq
        go_wp2
        go_roundw
        case rel => exact ⟨f, k + 1, P, by omega, by omega, hPf, by go_num, by go_num, hown, hbl, hnew⟩
        case measure => simp [intOf]; omega
    · obtain rfl : k = s.size := by omega
      have hend := Lib.hid (splitAt_end hat.out HB.out.symm)
      have hex := Lib.hid (str_extract s f s.size)
      go_wp2_with (at_builtin; refine wpList_append_own _ rfl (.tmp 28) (.tmp 32) 98 rfl w.heap.size 9 i0 _ 1 16 Try.underlying98 hi hz0 hz1 hz2 rfl (by decide) _ _ _ rfl (hown.alloc _) _ 1 1 [.string (s.extract f s.size)] rfl rfl (cell_one_at _ _ _ rfl) (by simp [Value.oneCell']) m1 m2 (by simp; omega) ?_; intro v' w2 hown2 hgrow _)
      obtain ⟨A', c', rfl⟩ := own_shape hown2
      go_ret
      rw [← hend.out]
      have e : strsV (P ++ [((bl s).take s.size).drop f]) = strsV P ++ [.string (s.extract f s.size)] := by rw [hex.out]; simp [strsV]
      refine ⟨A', c', by rw [List.length_append]; rfl, ?_, below_grown hown (by repeat (first | exact ext_refl _ | assumption | refine ext_alloc ?_ _ | refine ext_drew ?_ | refine ext_drewN ?_ _ | refine ext_set ?_ (by simp <;> omega) _ | refine ext_trans ?_ (by assumption))) hgrow⟩
      rw [e, List.length_append]
      exact hown2

set_option maxHeartbeats 1000000 in
theorem l1Split_any (s : ByteArray) (b : UInt8) (w : World) (hs : s.size ≤ 16777216) :
    Calls Try.prog 145 #[.string s, .int .u8 (b.toNat : Int)] w (RetSlice w 9 1 (splitL b (bl s)).length (strsV (splitL b (bl s)))) := by
  obtain ⟨i0, hi, hz0, hz1, hz2⟩ := info_parts info_str
  have ho := own_lit0 w 9 1
  have hlb := bl_size s
  have HB := Lib.hid hlb
  clear hlb
  go_enter Try.func145, Try.ntmps145
  go_wp2
  go_loopw [5, 6, 7] (fun v fr i wr => ∃ (f k : Nat) (P : List (List UInt8)), k ≤ s.size ∧ f ≤ k ∧ P.length ≤ f ∧ i = .int .i64 k ∧ fr = .int .i64 f ∧ wr.ownsRow w.heap.size 9 1 v P.length (strsV P) ∧ Below w.heap.size w wr ∧ Hid (splitAt b (bl s) P f k)) (fun _ _ i _ => s.size - (intOf i).toNat)
  case atStart => exact ⟨0, 0, [], by omega, by omega, by simp, rfl, rfl, ho, (by repeat (first | exact ext_refl _ | assumption | refine ext_alloc ?_ _ | refine ext_drew ?_ | refine ext_drewN ?_ _ | refine ext_set ?_ (by simp <;> omega) _ | refine ext_trans ?_ (by assumption))), Lib.hid (splitAt_start b (bl s))⟩
  case round =>
    obtain ⟨f, k, P, hk, hfk, hPf, rfl, rfl, hown, hbl, hat⟩ := hrel
    have m1 : P.length + 1 ≤ maxLen := by unfold maxLen; omega
    have m2 : (P.length + 1) * 16 ≤ 140737488355328 := by omega
    have m3 := hbl.size
    by_cases hlt : k < s.size
    · have hget := bl_get hlt
      by_cases heq : s[k] = b
      · have hd : ((s[k].toNat : Int) == (b.toNat : Int)) = true := by simp [heq]
        have hnew := Lib.hid (splitAt_hit hat.out (by rw [hget, heq]))
        have hex := Lib.hid (str_extract s f k)
        clear hget heq
        go_wp2_with (at_builtin; refine wpList_append_own _ rfl (.tmp 20) (.tmp 25) 98 rfl w.heap.size 9 i0 _ 1 16 Try.underlying98 hi hz0 hz1 hz2 rfl (by decide) _ _ _ rfl (hown.alloc _) _ 1 1 [.string (s.extract f k)] rfl rfl (cell_one_at _ _ _ rfl) (by simp [Value.oneCell']) m1 m2 (by simp; omega) ?_; intro v' w2 hown2 hgrow _)
        go_roundw
        case rel =>
          refine ⟨k + 1, k + 1, P ++ [((bl s).take k).drop f], by omega, by omega, by simp; omega, by go_num, by go_num, ?_, below_grown hown (by repeat (first | exact ext_refl _ | assumption | refine ext_alloc ?_ _ | refine ext_drew ?_ | refine ext_drewN ?_ _ | refine ext_set ?_ (by simp <;> omega) _ | refine ext_trans ?_ (by assumption))) hgrow, hnew⟩
          have e : strsV (P ++ [((bl s).take k).drop f]) = strsV P ++ [.string (s.extract f k)] := by rw [hex.out]; simp [strsV]
          rw [e, List.length_append]
          exact hown2
        case measure => simp [intOf]; omega
      · have hd : ((s[k].toNat : Int) == (b.toNat : Int)) = false := by
          rw [beq_eq_false_iff_ne]
          intro e
          exact heq (UInt8.toNat_inj.1 (by omega))
        have hnew := Lib.hid (splitAt_miss hat.out hget heq)
        clear hget heq
        go_wp2
        go_roundw
        case rel => exact ⟨f, k + 1, P, by omega, by omega, hPf, by go_num, by go_num, hown, hbl, hnew⟩
        case measure => simp [intOf]; omega
    · obtain rfl : k = s.size := by omega
      have hend := Lib.hid (splitAt_end hat.out HB.out.symm)
      have hex := Lib.hid (str_extract s f s.size)
      go_wp2_with (at_builtin; refine wpList_append_own _ rfl (.tmp 29) (.tmp 33) 98 rfl w.heap.size 9 i0 _ 1 16 Try.underlying98 hi hz0 hz1 hz2 rfl (by decide) _ _ _ rfl (hown.alloc _) _ 1 1 [.string (s.extract f s.size)] rfl rfl (cell_one_at _ _ _ rfl) (by simp [Value.oneCell']) m1 m2 (by simp; omega) ?_; intro v' w2 hown2 hgrow _)
      obtain ⟨A', c', rfl⟩ := own_shape hown2
      go_ret
      rw [← hend.out]
      have e : strsV (P ++ [((bl s).take s.size).drop f]) = strsV P ++ [.string (s.extract f s.size)] := by rw [hex.out]; simp [strsV]
      refine ⟨A', c', by rw [List.length_append]; rfl, ?_, below_grown hown (by repeat (first | exact ext_refl _ | assumption | refine ext_alloc ?_ _ | refine ext_drew ?_ | refine ext_drewN ?_ _ | refine ext_set ?_ (by simp <;> omega) _ | refine ext_trans ?_ (by assumption))) hgrow⟩
      rw [e, List.length_append]
      exact hown2

end Go.Proofs.Ytlkfffohjeoooaa
