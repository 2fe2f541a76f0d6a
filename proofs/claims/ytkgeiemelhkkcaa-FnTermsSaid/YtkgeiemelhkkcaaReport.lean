
/- TermReport: the program's and the reference's. -/
import Derived.Test.YtkgeiemelhkkcaaShare
import Derived.Test.YtkgeiemelhkkcaaLine
namespace Go.Proofs.Ytkgeiemelhkkcaa
open Go.RowKit
set_option linter.unusedVariables false
set_option linter.unusedSimpArgs false
def repTo (l : List R5) (k : Nat) : ByteArray := (l.take k).foldl (fun z r => z ++ (lineB r ++ ⟨#[10]⟩)) ⟨#[]⟩
theorem repTo_succ {l : List R5} {k : Nat} {r : R5} {z : ByteArray} (hr : l[k]? = some r) (h : repTo l k = z) : repTo l (k + 1) = z ++ (lineB r ++ ⟨#[10]⟩) := by
  unfold repTo at *
  rw [List.take_add_one, hr, List.foldl_append, h]
  rfl
def repB (l : List R5) : ByteArray := if areB l = true then repTo l l.length ++ decI (passTo l l.length : Nat) ++ ⟨#[32, 112, 97, 115, 115, 101, 100, 32, 105, 110, 32]⟩ ++ severalB (l.length : Nat) ⟨#[116, 101, 114, 109]⟩ else ⟨#[]⟩
theorem rep_end {l : List R5} {n x : Nat} {z : ByteArray} (hg : areB l = true) (hx : passTo l l.length = x) (hz : repTo l l.length = z) (hn : l.length = n) :
    repB l = z ++ decI (x : Int) ++ ⟨#[32, 112, 97, 115, 115, 101, 100, 32, 105, 110, 32]⟩ ++ severalB (n : Int) ⟨#[116, 101, 114, 109]⟩ := by
  rw [repB, if_pos hg, hx, hz, hn]
set_option maxHeartbeats 1000000 in
theorem implReport_any (A : Option Addr) (n c : Nat) (l : List R5) (w : World) (hn : n ≤ 1048576) (h : Reads w w.heap.size 5 A n (rowsV l)) :
    Calls Try.prog 43 #[.slice A n c] w fun e w' => e = .returned (.tuple #[.string (repB l), .bool (areB l)]) ∧ Below w.heap.size w w' := by
  have hl := rows_len h
  have H := Lib.hid h
  have HL := Lib.hid hl
  clear h hl
  cases hg : areB l
  · have E : repB l = ⟨#[]⟩ := by simp [repB, hg]
    rw [E]
    clear E
    go_enter Try.func43, Try.ntmps43
    go_wp2_with (go_at_call 21; refine (areTermRows_any A n c l _ hn H.out).mono ?_; rintro e w' ⟨rfl, hb⟩; obtain ⟨hc, hf⟩ := bcell hb; have hz := hb.size; (try simp at hz))
    go_ret2
    exact ⟨rfl, (by repeat (first | exact ext_refl _ | assumption | refine ext_alloc ?_ _ | refine ext_drew ?_ | refine ext_drewN ?_ _ | refine ext_set ?_ (by simp <;> omega) _ | refine ext_trans ?_ (by assumption)))⟩
  · have h10 : n ≤ 10 := by rw [← HL.out]; exact are_len hg
    have HG := Lib.hid (fun (k : Nat) (r : R5) (h : l[k]? = some r) => are_all hg h)
    have hg2 := Lib.hid hg
    go_enter Try.func43, Try.ntmps43
    go_wp2_with (go_at_call 21; refine (areTermRows_any A n c l _ hn H.out).mono ?_; rintro e w' ⟨rfl, hb⟩; obtain ⟨hc, hf⟩ := bcell hb; have hz := hb.size; (try simp at hz))
    go_loopw [4, 5, 13] (fun s p i wr => ∃ (k x : Nat) (z : ByteArray), k ≤ n ∧ x ≤ k * 999 ∧ z.size ≤ k * 200 ∧ i = .int .i64 k ∧ p = .int .i64 x ∧ s = .string z ∧ Below w.heap.size w wr ∧ Hid (passTo l k = x ∧ repTo l k = z)) (fun _ _ i _ => n - (intOf i).toNat)
    case atStart => exact ⟨0, 0, ⟨#[]⟩, by omega, by omega, by decide, rfl, rfl, rfl, (by repeat (first | exact ext_refl _ | assumption | refine ext_alloc ?_ _ | refine ext_drew ?_ | refine ext_drewN ?_ _ | refine ext_set ?_ (by simp <;> omega) _ | refine ext_trans ?_ (by assumption))), Lib.hid ⟨rfl, rfl⟩⟩
    case round =>
      obtain ⟨k, x, z, hk, hx, hzs, rfl, rfl, rfl, hbl, hst⟩ := hrel
      by_cases hlt : k < n
      · obtain ⟨r, hr⟩ := list_split (l := l) (k := k) (by rw [HL.out]; exact hlt)
        obtain ⟨b, o, rfl, hbb, c0, c1, c2, c3, c4⟩ := rows_at (H.out.ext hbl (Nat.le_refl _)) hr
        have hbw : b < wr.heap.size := Nat.lt_of_lt_of_le hbb hbl.size
        have hok := HG.out k r hr
        obtain ⟨y1, y2, ⟨y3, y3'⟩, ⟨y4, y4'⟩, y5⟩ := row_bounds hok
        have hs := Lib.hid (sums_succ hr hst.out.1 rfl y4 y3).1
        have ht := Lib.hid (repTo_succ hr hst.out.2)
        have hls := lineB_size r
        have hok := Lib.hid hok
        clear hr
        go_wp2_with (go_at_call 61; refine (termLine_any r _ hok.out).mono ?_; rintro e w' ⟨rfl, hb⟩; obtain ⟨hc, hf⟩ := bcell hb; have hz := hb.size; (try simp at hz))
        go_roundw
        case rel => exact ⟨k + 1, x + r.d.toNat, z ++ (lineB r ++ ⟨#[10]⟩), by omega, by omega, by simp [ByteArray.size_append, lit_size]; omega, by go_num, by go_num, rfl, (by repeat (first | exact ext_refl _ | assumption | refine ext_alloc ?_ _ | refine ext_drew ?_ | refine ext_drewN ?_ _ | refine ext_set ?_ (by simp <;> omega) _ | refine ext_trans ?_ (by assumption))), Lib.hid ⟨hs.out, ht.out⟩⟩
        case measure => simp [intOf]; omega
      · obtain rfl : k = n := by omega
        have E := Lib.hid (rep_end (l := l) (x := x) (z := z) hg2.out (by rw [HL.out]; exact hst.out.1) (by rw [HL.out]; exact hst.out.2) HL.out)
        have z1 := decI_size (x : Int)
        have z2 := severalB_size (k : Int) ⟨#[116, 101, 114, 109]⟩
        simp [lit_size] at z2
        go_wp2_with (first | (go_at_call 67; refine (text_any (x : Int) _ (by omega) (by omega)).mono ?_; rintro e w' ⟨rfl, hb⟩; obtain ⟨hc, hf⟩ := bcell hb; have hz := hb.size; (try simp at hz)) | (go_at_call 68; refine (several_any (k : Int) _ _ (by omega) (by omega) (by simp [lit_size])).mono ?_; rintro e w' ⟨rfl, hb⟩; obtain ⟨hc, hf⟩ := bcell hb; have hz := hb.size; (try simp at hz)))
        go_ret2
        exact ⟨by rw [E.out]; rfl, (by repeat (first | exact ext_refl _ | assumption | refine ext_alloc ?_ _ | refine ext_drew ?_ | refine ext_drewN ?_ _ | refine ext_set ?_ (by simp <;> omega) _ | refine ext_trans ?_ (by assumption)))⟩
set_option maxHeartbeats 1000000 in
theorem specReport_any (A : Option Addr) (n c : Nat) (l : List R5) (w : World) (hn : n ≤ 1048576) (h : Reads w w.heap.size 5 A n (rowsV l)) :
    Calls Try.prog 42 #[.slice A n c] w fun e w' => e = .returned (.tuple #[.string (repB l), .bool (areB l)]) ∧ Below w.heap.size w w' := by
  have hl := rows_len h
  have H := Lib.hid h
  have HL := Lib.hid hl
  clear h hl
  cases hg : areB l
  · have E : repB l = ⟨#[]⟩ := by simp [repB, hg]
    rw [E]
    clear E
    go_enter Try.func42, Try.ntmps42
    go_wp2_with (go_at_call 58; refine (l26Good_any A n c l _ hn H.out).mono ?_; rintro e w' ⟨rfl, hb⟩; obtain ⟨hc, hf⟩ := bcell hb; have hz := hb.size; (try simp at hz))
    go_ret2
    exact ⟨rfl, (by repeat (first | exact ext_refl _ | assumption | refine ext_alloc ?_ _ | refine ext_drew ?_ | refine ext_drewN ?_ _ | refine ext_set ?_ (by simp <;> omega) _ | refine ext_trans ?_ (by assumption)))⟩
  · have h10 : n ≤ 10 := by rw [← HL.out]; exact are_len hg
    have HG := Lib.hid (fun (k : Nat) (r : R5) (h : l[k]? = some r) => are_all hg h)
    have hg2 := Lib.hid hg
    go_enter Try.func42, Try.ntmps42
    go_wp2_with (go_at_call 58; refine (l26Good_any A n c l _ hn H.out).mono ?_; rintro e w' ⟨rfl, hb⟩; obtain ⟨hc, hf⟩ := bcell hb; have hz := hb.size; (try simp at hz))
    go_loopw [4, 5, 6] (fun s p i wr => ∃ (k x : Nat) (z : ByteArray), k ≤ n ∧ x ≤ k * 999 ∧ z.size ≤ k * 200 ∧ i = .int .i64 k ∧ p = .int .i64 x ∧ s = .string z ∧ Below w.heap.size w wr ∧ Hid (passTo l k = x ∧ repTo l k = z)) (fun _ _ i _ => n - (intOf i).toNat)
    case atStart => exact ⟨0, 0, ⟨#[]⟩, by omega, by omega, by decide, rfl, rfl, rfl, (by repeat (first | exact ext_refl _ | assumption | refine ext_alloc ?_ _ | refine ext_drew ?_ | refine ext_drewN ?_ _ | refine ext_set ?_ (by simp <;> omega) _ | refine ext_trans ?_ (by assumption))), Lib.hid ⟨rfl, rfl⟩⟩
    case round =>
      obtain ⟨k, x, z, hk, hx, hzs, rfl, rfl, rfl, hbl, hst⟩ := hrel
      by_cases hlt : k < n
      · obtain ⟨r, hr⟩ := list_split (l := l) (k := k) (by rw [HL.out]; exact hlt)
        obtain ⟨b, o, rfl, hbb, c0, c1, c2, c3, c4⟩ := rows_at (H.out.ext hbl (Nat.le_refl _)) hr
        have hbw : b < wr.heap.size := Nat.lt_of_lt_of_le hbb hbl.size
        have hok := HG.out k r hr
        obtain ⟨y1, y2, ⟨y3, y3'⟩, ⟨y4, y4'⟩, y5⟩ := row_bounds hok
        have hs := Lib.hid (sums_succ hr hst.out.1 rfl y4 y3).1
        have ht := Lib.hid (repTo_succ hr hst.out.2)
        have hls := lineB_size r
        have hok := Lib.hid hok
        clear hr
        go_wp2_with (go_at_call 60; refine (l26Line_any r _ hok.out).mono ?_; rintro e w' ⟨rfl, hb⟩; obtain ⟨hc, hf⟩ := bcell hb; have hz := hb.size; (try simp at hz))
        go_roundw
        case rel => exact ⟨k + 1, x + r.d.toNat, z ++ (lineB r ++ ⟨#[10]⟩), by omega, by omega, by simp [ByteArray.size_append, lit_size]; omega, by go_num, by go_num, by rw [ByteArray.append_assoc], (by repeat (first | exact ext_refl _ | assumption | refine ext_alloc ?_ _ | refine ext_drew ?_ | refine ext_drewN ?_ _ | refine ext_set ?_ (by simp <;> omega) _ | refine ext_trans ?_ (by assumption))), Lib.hid ⟨hs.out, ht.out⟩⟩
        case measure => simp [intOf]; omega
      · obtain rfl : k = n := by omega
        have E := Lib.hid (rep_end (l := l) (x := x) (z := z) hg2.out (by rw [HL.out]; exact hst.out.1) (by rw [HL.out]; exact hst.out.2) HL.out)
        have z1 := decI_size (x : Int)
        have z2 := severalB_size (k : Int) ⟨#[116, 101, 114, 109]⟩
        simp [lit_size] at z2
        go_wp2_with (first | (go_at_call 65; refine (l1Num_any (x : Int) _ (by omega) (by omega)).mono ?_; rintro e w' ⟨rfl, hb⟩; obtain ⟨hc, hf⟩ := bcell hb; have hz := hb.size; (try simp at hz)) | (go_at_call 66; refine (l26Many_any (k : Int) _ _ (by omega) (by omega) (by simp [lit_size])).mono ?_; rintro e w' ⟨rfl, hb⟩; obtain ⟨hc, hf⟩ := bcell hb; have hz := hb.size; (try simp at hz)))
        go_ret2
        exact ⟨by rw [E.out]; rfl, (by repeat (first | exact ext_refl _ | assumption | refine ext_alloc ?_ _ | refine ext_drew ?_ | refine ext_drewN ?_ _ | refine ext_set ?_ (by simp <;> omega) _ | refine ext_trans ?_ (by assumption)))⟩
set_option maxHeartbeats 1000000 in
theorem law_TermReport (A : Option Addr) (n c : Nat) (l : List R5) (w : World) (hlen : n ≤ maxLen) (h : Reads w w.heap.size 5 A n (rowsV l)) :
    Calls Try.prog 12 #[.slice A n c] w fun r w' => r = .returned (.bool true) ∧ Below w.heap.size w w' := by
  unfold maxLen at hlen
  have hl := rows_len h
  by_cases hbig : (1048576 : Int) < n
  · have hs : (if (1048576 : Int) < n then (-1 : Int) else 1048576 - n) = -1 := if_pos hbig
    go_enter Try.func12, Try.ntmps12
    go_wp2_with fail
    refine (szTermRowS_any A n c 1048576 _ hlen (by omega) (by omega)).mono ?_
    rintro e w' ⟨rfl, rfl⟩
    rw [hs]
    clear hs
    go_wp2
    go_ret
    exact ⟨rfl, ext_refl _⟩
  · have hs : (if (1048576 : Int) < n then (-1 : Int) else 1048576 - n) = 1048576 - n := if_neg hbig
    go_enter Try.func12, Try.ntmps12
    go_wp2_with fail
    refine (szTermRowS_any A n c 1048576 _ hlen (by omega) (by omega)).mono ?_
    rintro e w' ⟨rfl, rfl⟩
    rw [hs]
    clear hs
    have hn : n ≤ 1048576 := by omega
    go_wp2_with fail
    refine (toTermRowS_any A n c l _ hn h).mono ?_
    rintro e w1 ⟨A1, c1, rfl, ho1, hb1⟩
    have h1 := rows_ext h hb1
    go_wp2_with fail
    refine (specReport_any A1 n c1 l _ hn (Reads.of_own ho1)).mono ?_
    rintro e w2 ⟨rfl, hb2⟩
    have h2 := rows_ext h1 hb2
    go_wp2_with fail
    refine (toTermRowS_any A n c l _ hn h2).mono ?_
    rintro e w3 ⟨A3, c3, rfl, ho3, hb3⟩
    have h3 := rows_ext h2 hb3
    have x3 := Reads.of_own ho3
    go_wp2_with fail
    refine (implReport_any A3 n c3 l _ hn x3).mono ?_
    rintro e w4 ⟨rfl, hb4⟩
    have h4 := rows_ext h3 hb4
    have x4 := rows_ext x3 hb4
    go_wp2_with fail
    refine (toTermRowS_any A n c l _ hn h4).mono ?_
    rintro e w5 ⟨A5, c5, rfl, ho5, hb5⟩
    have x5 := rows_ext x4 hb5
    have y5 := Reads.of_own ho5
    go_wp2_with fail
    refine (eqTermRowS_any A3 A5 n n c3 c5 l l _ hn hn x5 y5).mono ?_
    rintro e w6 ⟨rfl, hb6⟩
    go_wp2
    go_ret
    exact ⟨rfl, ext_trans (ext_trans (ext_trans (ext_trans (ext_trans hb1 hb2) hb3) hb4) hb5) hb6⟩
end Go.Proofs.Ytkgeiemelhkkcaa
