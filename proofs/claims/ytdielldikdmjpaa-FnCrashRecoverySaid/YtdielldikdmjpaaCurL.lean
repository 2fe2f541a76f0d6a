/- The drawing of records and logs. -/
import Derived.Test.YtdielldikdmjpaaCurT
import Derived.Test.YtdielldikdmjpaaCode
import Derived.Test.YtdielldikdmjpaaLgA
import Derived.Test.YtdielldikdmjpaaLgC
namespace Go.Proofs.Ytdielldikdmjpaa
open Go.RowKit
set_option linter.unusedVariables false
set_option linter.unusedSimpArgs false
theorem Blk.gr {w w' : World} {g L : Nat} {t : TypeId} {cs : Array Value} (h : Blk w L t cs) (hg : Gr g w w') (hne : L ≠ g) : Blk w' L t cs := (hg.block L h.lt (by intro e; injection e with e; exact hne e)).trans h
theorem Blk.far {w : World} {L : Nat} {t : TypeId} {cs : Array Value} (h : Blk w L t cs) {p : Addr} (hne : L ≠ p.block) (u : Value) : Blk (w.setCell p u) L t cs := (Below.heap_setCell w p u L hne).trans h
theorem allAt_ext {w w' : World} {g n : Nat} {A : Option Addr} {P : Value → Prop} (h : AllAt w g A n P) (hb : Below w.heap.size w w') : AllAt w' g A n P := h.gr (Gr.of_ext hb)
/-- a record is drawn -/
def DrawRec (g a K M : Nat) (w : World) (e : Ending) (w' : World) : Prop := ∃ (c r : ByteArray) (a' : Nat), e = .returned (recV c r) ∧ c.size ≤ M ∧ r.size ≤ M ∧ a' ≤ a + K ∧ CurAt w' g a' ∧ Gr g w w'
theorem of_lit (g a M : Nat) (l : List ByteArray) (e : TypeId) (w : World) (h : CurAt w g a) (ha : a ≤ 900000000000) (hl : ∀ s ∈ l, s.size ≤ M) (hn : l.length ≤ 65536) (h0 : 0 < l.length) {n H : Nat} (c : Nat) (hnl : n = l.length) (hH : H = w.heap.size) :
    Calls Try.prog 71 #[.pointer (some ⟨g, 0, none⟩), .slice (some ⟨H, 0, none⟩) n c] (w.alloc (.cells (l.map Value.string).toArray e)) (DrawStr g a 2 M w) := by
  subst hnl
  have hA := allAt_lit w g (l.map Value.string) e hH h.lt (StrLe M) (by
    intro u hu
    obtain ⟨s, hs, rfl⟩ := List.mem_map.1 hu
    exact ⟨s, rfl, hl s hs⟩)
  rw [List.length_map] at hA
  refine (of_any g a _ l.length c M _ (h.ext (ext_alloc (ext_refl _) _)) ha hn h0 hA).mono ?_
  rintro e w1 ⟨s1, a1, rfl, hs1, ha1, hc1, hg1⟩
  exact ⟨s1, a1, rfl, hs1, ha1, hc1, (Gr.of_ext (ext_alloc (ext_refl _) _)).trans hg1⟩
theorem among_lit (g a : Nat) (lo hi : Int) (l : List Int) (e : TypeId) (w : World) (h : CurAt w g a) (ha : a ≤ 900000000000) (hl : ∀ z ∈ l, lo ≤ z ∧ z ≤ hi) (hn : l.length ≤ 65536) (h0 : 0 < l.length) {n H : Nat} (c : Nat) (hnl : n = l.length) (hH : H = w.heap.size) :
    Calls Try.prog 56 #[.pointer (some ⟨g, 0, none⟩), .slice (some ⟨H, 0, none⟩) n c] (w.alloc (.cells (l.map (Value.int .i64)).toArray e)) (DrawIn g a 2 lo hi w) := by
  subst hnl
  have hA := allAt_lit w g (l.map (Value.int .i64)) e hH h.lt (IntIn lo hi) (by
    intro u hu
    obtain ⟨s, hs, rfl⟩ := List.mem_map.1 hu
    exact ⟨s, rfl, hl s hs⟩)
  rw [List.length_map] at hA
  refine (among_any g a _ l.length c lo hi _ (h.ext (ext_alloc (ext_refl _) _)) ha hn h0 hA).mono ?_
  rintro e w1 ⟨s1, a1, rfl, hs1, hs2, ha1, hc1, hg1⟩
  exact ⟨s1, a1, rfl, hs1, hs2, ha1, hc1, (Gr.of_ext (ext_alloc (ext_refl _) _)).trans hg1⟩
theorem zeros3 (w : World) : (convert 55 9 (.slice (some ⟨w.heap.size, 0, none⟩) 3 3)).run Try.prog (w.alloc (.cells #[.int .u8 0, .int .u8 0, .int .u8 0] 5)) = .ok (.string ⟨#[0, 0, 0]⟩) (w.alloc (.cells #[.int .u8 0, .int .u8 0, .int .u8 0] 5)) :=
  bytes_back _ Try.underlying55 Try.underlying5 Try.underlying9 w.heap.size 3 3 [0, 0, 0] rfl (fun j hj => by
    rw [World.cell?_alloc_at _ _ _ _ rfl]
    match j, hj with
    | 0, _ => rfl
    | 1, _ => rfl
    | 2, _ => rfl
    | j + 3, h => omega)
set_option maxHeartbeats 1000000 in
theorem logRecord_any (g a : Nat) (w : World) (h : CurAt w g a) (ha : a ≤ 700000000000) :
    Calls Try.prog 57 #[.pointer (some ⟨g, 0, none⟩)] w (DrawRec g a 8 20 w) := by
  have hlt := h.lt
  have kz := zeros3
  have hmk : ∀ w : World, (Instr.makeSlice 55 (.int .i64 3) (.int .i64 3)).run Try.prog w = .ok (.slice (some ⟨w.heap.size, 0, none⟩) 3 3) (w.alloc (.cells #[.int .u8 0, .int .u8 0, .int .u8 0] 5)) := fun _ => by kernel_rfl
  go_enter Try.func57, Try.ntmps57
  go_wp2_with fail
  refine (of_lit g a 20 [⟨#[99, 111, 117, 110, 116]⟩, ⟨#[115, 111, 114, 116, 32, 109, 101, 114, 103, 101]⟩, ⟨#[120]⟩, ⟨#[115, 101, 108, 101, 99, 116, 32, 50]⟩, ⟨#[48, 32, 49]⟩] 9 _ (h.ext (ext_alloc (ext_refl _) _)) (by omega) (by decide) (by decide) (by decide) _ rfl (by simp)).mono ?_
  rintro e w1 ⟨s1, a1, rfl, hs1, ha1, hc1, hg1⟩
  go_wp2_with fail
  refine (of_lit g a1 20 [⟨#[]⟩, ⟨#[51]⟩, ⟨#[63]⟩, ⟨#[97, 64, 98]⟩, ⟨#[51, 32, 49, 32, 50]⟩] 9 _ hc1 (by omega) (by decide) (by decide) (by decide) _ rfl (by simp)).mono ?_
  rintro e w2 ⟨s2, a2, rfl, hs2, ha2, hc2, hg2⟩
  go_wp2_with fail
  refine (pick_any g a2 24 _ (hc2.ext (ext_alloc (ext_refl _) _)) (by omega) (by omega) (by omega)).mono ?_
  rintro e w3 ⟨z3, a3, rfl, z30, z31, ha3, hc3, hg3⟩
  have hx1 : Gr g w w1 := (Gr.of_ext (ext_alloc (ext_refl _) _)).trans hg1
  have hx2 : Gr g w w2 := hx1.trans hg2
  have hx3 : Gr g w w3 := (hx2.trans (Gr.of_ext (ext_alloc (ext_refl _) _))).trans hg3
  have y2 := hx2.size
  have s23 : w2.heap.size < w3.heap.size := by have := hg3.size; simp at this; omega
  have s03 : w.heap.size < w3.heap.size := by omega
  have HR : Blk w3 w.heap.size 26 #[.string ⟨#[]⟩, .string ⟨#[]⟩] := ((((Blk.new w _ _).gr hg1 (by omega)).gr hg2 (by omega)).ext (ext_alloc (ext_refl _) _)).gr hg3 (by omega)
  have HE : Blk w3 w2.heap.size 26 #[.string s1, .string s2] := (Blk.new w2 _ _).gr hg3 (by omega)
  have hne : w.heap.size ≠ w2.heap.size := by have := hg1.size; have := hg2.size; simp at *; omega
  have r0 : w3.cell? ⟨w.heap.size, 0, none⟩ = some (.string ⟨#[]⟩) := HR.cell 0
  have r1 : w3.cell? ⟨w.heap.size, 1, none⟩ = some (.string ⟨#[]⟩) := HR.cell 1
  have e0 : w3.cell? ⟨w2.heap.size, 0, none⟩ = some (.string s1) := HE.cell 0
  have e1 : w3.cell? ⟨w2.heap.size, 1, none⟩ = some (.string s2) := HE.cell 1
  have fr0 := HR.frozen 0
  have fr1 := HR.frozen 1
  have fe0 := HE.frozen 0
  have fe1 := HE.frozen 1
  have H1 := Lib.hid hx3
  have H2 := Lib.hid hc3
  have H3 := Lib.hid HR
  have H4 := Lib.hid HE
  clear hg1 hg2 hg3 hx1 hx2 hx3 hc1 hc2 hc3 HR HE
  by_cases hz0 : z3 = 0
  · subst hz0
    go_wp2_with fail
    refine (of_lit g a3 20 [⟨#[]⟩, ⟨#[97, 64, 98]⟩, ⟨#[97, 35]⟩, ⟨#[10]⟩, ⟨#[0, 0, 0]⟩] 9 _ (H2.out.ext (ext_alloc (ext_refl _) _)) (by omega) (by decide) (by decide) (by decide) _ rfl (by simp)).mono ?_
    rintro e w4 ⟨s4, a4, rfl, hs4, ha4, hc4, hg4⟩
    have HR4 := (H3.out.ext (ext_alloc (ext_refl _) _)).gr hg4 (by omega)
    have HE4 := (H4.out.ext (ext_alloc (ext_refl _) _)).gr hg4 (by omega)
    have r0 : w4.cell? ⟨w.heap.size, 0, none⟩ = some (.string ⟨#[]⟩) := HR4.cell 0
    have r1 : w4.cell? ⟨w.heap.size, 1, none⟩ = some (.string ⟨#[]⟩) := HR4.cell 1
    have e0 : w4.cell? ⟨w2.heap.size, 0, none⟩ = some (.string s1) := HE4.cell 0
    have e1 : w4.cell? ⟨w2.heap.size, 1, none⟩ = some (.string s2) := HE4.cell 1
    have fr0 := HR4.frozen 0
    have fr1 := HR4.frozen 1
    have fe0 := HE4.frozen 0
    have fe1 := HE4.frozen 1
    have H1 := Lib.hid ((H1.out.trans (Gr.of_ext (ext_alloc (ext_refl _) _))).trans hg4)
    have H2 := Lib.hid hc4
    clear hg4 hc4 HR4 HE4
    go_wp2
    refine bodyPost_ret (v := recV s4 s2) (by simp [results, Try.results57, go_sem, *]) rfl ⟨s4, s2, a4, rfl, hs4, hs2, by omega, ?_, ?_⟩
    · exact ((H2.out.far (by show g < w2.heap.size; omega) _).far (by show g < w.heap.size; omega) _).far (by show g < w.heap.size; omega) _
    · exact ((H1.out.setNew (by show w.heap.size ≤ w2.heap.size; omega) _).setNew (by show w.heap.size ≤ w.heap.size; omega) _).setNew (by show w.heap.size ≤ w.heap.size; omega) _
  · by_cases hz1 : z3 = 1
    · subst hz1
      go_wp2_with fail
      refine (of_lit g a3 20 [⟨#[35]⟩, ⟨#[10]⟩, ⟨#[127]⟩] 9 _ H2.out (by omega) (by decide) (by decide) (by decide) _ rfl (by simp)).mono ?_
      rintro e w4 ⟨s4, a4, rfl, hs4, ha4, hc4, hg4⟩
      have HR4 := H3.out.gr hg4 (by omega)
      have HE4 := H4.out.gr hg4 (by omega)
      have r0 : w4.cell? ⟨w.heap.size, 0, none⟩ = some (.string ⟨#[]⟩) := HR4.cell 0
      have r1 : w4.cell? ⟨w.heap.size, 1, none⟩ = some (.string ⟨#[]⟩) := HR4.cell 1
      have e0 : w4.cell? ⟨w2.heap.size, 0, none⟩ = some (.string s1) := HE4.cell 0
      have e1 : w4.cell? ⟨w2.heap.size, 1, none⟩ = some (.string s2) := HE4.cell 1
      have fr0 := HR4.frozen 0
      have fr1 := HR4.frozen 1
      have fe0 := HE4.frozen 0
      have fe1 := HE4.frozen 1
      have H1 := Lib.hid (H1.out.trans hg4)
      have H2 := Lib.hid hc4
      clear hg4 hc4 HR4 HE4
      go_wp2
      refine bodyPost_ret (v := recV s1 s4) (by simp [results, Try.results57, go_sem, *]) rfl ⟨s1, s4, a4, rfl, hs1, hs4, by omega, ?_, ?_⟩
      · exact ((H2.out.far (by show g < w2.heap.size; omega) _).far (by show g < w.heap.size; omega) _).far (by show g < w.heap.size; omega) _
      · exact ((H1.out.setNew (by show w.heap.size ≤ w2.heap.size; omega) _).setNew (by show w.heap.size ≤ w.heap.size; omega) _).setNew (by show w.heap.size ≤ w.heap.size; omega) _
    · have hz0' : (z3 == 0) = false := by simpa using hz0
      have hz1' : (z3 == 1) = false := by simpa using hz1
      go_wp2
      refine bodyPost_ret (v := recV s1 s2) (by simp [results, Try.results57, go_sem, *]) rfl ⟨s1, s2, a3, rfl, hs1, hs2, by omega, ?_, ?_⟩
      · exact (H2.out.far (by show g < w.heap.size; omega) _).far (by show g < w.heap.size; omega) _
      · exact (H1.out.setNew (by show w.heap.size ≤ w.heap.size; omega) _).setNew (by show w.heap.size ≤ w.heap.size; omega) _
end Go.Proofs.Ytdielldikdmjpaa
