/- Minds: the reference looks at the frame; rods that are lost. -/
import Derived.Test.YtlkfffohjeoooaaVMdL
import Derived.Test.YtlkfffohjeoooaaVM1
import Derived.Deep.AppendLies
namespace Go.Proofs.Ytlkfffohjeoooaa
open Go.RowKit
set_option linter.unusedVariables false
set_option linter.unusedSimpArgs false
theorem cell_one_new' (w : World) (v : Value) (e : TypeId) : ∀ j u, [v][j]? = some u → (w.alloc (.cells #[v] e)).cell? ((⟨w.heap.size, 0, none⟩ : Addr).add j) = some u := by
 intro j u hj
 match j, hj with
 | 0, hj => simp at hj; subst hj; rw [add_flat, World.cell?_alloc_at _ _ _ _ rfl]; rfl
 | j + 1, hj => simp at hj
theorem wpOp_slotsK {P : Program} {ops : Array Oper} {Q : Exit → Act → World → Prop} {i k d n : Nat} {a0 : Act} {vs : Nat → Value} {w : World} {o : Oper} {J' : (Nat → Value) → World → Prop} (ho : ops[i]? = some o) (hk : k < n) (hsz : d + n ≤ a0.tmps.size)
 (h : ∀ (b : Act) (K : Act → World → Prop), (∀ t, t < d → b.tmps[t]?.getD undef = a0.eval (.tmp t)) → (∀ k, k < n → b.tmps[d + k]?.getD undef = vs k) → (∀ v w', J' (upd vs k v) w' → K (b.put (some (d + k)) v) w') →
  if Region.wanted o (yielded ops b.tmps) = true then Oper.wp P o b w K Q else K (b.put o.dst undef) w) :
 wpOp P ops Q i (fun a' w' => ∃ vs', a' = slots a0 d vs' n ∧ J' vs' w') (slots a0 d vs n) w :=
 wpOp_of ho fun K hK => h _ K (fun t ht => (Array.getD_eq_getD_getElem? ..).symm.trans (slots_out a0 d vs ht n)) (fun k hk => (Array.getD_eq_getD_getElem? ..).symm.trans (slots_at a0 d vs n hk hsz)) (fun v w' hJ => hK _ _ ⟨upd vs k v, slots_put a0 d vs v n hk, hJ⟩)
theorem own_of_blk {w : World} {B g e size : Nat} (h : Blk w g e #[]) (hB : B ≤ g) : w.ownsRow B e size (.slice (some ⟨g, 0, none⟩) 0 0) 0 [] :=
 ⟨by simp, .inr ⟨g, 0, #[], rfl, hB, h, Nat.le_refl _, by unfold maxLen; omega, by simp, by simp⟩⟩
def GPm (s S : Nat) (u lo : Int) (A : Option Addr) (n c : Nat) (l : List R2) (be gu : Int) (vs : Nat → Value) (wx : World) : Nat → Prop
 | 0 => vs 2 = .pointer (some ⟨s, 0, none⟩)
 | 1 => vs 3 = frV u lo A n c
 | 2 => ∃ h cr, vs 4 = frV u lo (some ⟨h, 0, none⟩) n cr ∧ wx.ownsRow S 155 2 (.slice (some ⟨h, 0, none⟩) n cr) n (rowsV2 l)
 | 3 => ∃ g, vs 5 = .slice (some ⟨g, 0, none⟩) 0 0 ∧ S ≤ g ∧ Blk wx g 3 #[]
 | 4 => ∃ g, vs 6 = .slice (some ⟨g, 0, none⟩) 0 0 ∧ S ≤ g ∧ Blk wx g 3 #[]
 | 5 => vs 7 = .pointer (some ⟨s, 5, none⟩)
 | 6 => vs 8 = .int .i64 be
 | 7 => vs 9 = .pointer (some ⟨s, 6, none⟩)
 | 8 => vs 10 = .int .i64 gu
 | 9 => ∃ h cr g i, vs 4 = frV u lo (some ⟨h, 0, none⟩) n cr ∧ vs 5 = .slice (some ⟨g, 0, none⟩) 0 0 ∧ vs 6 = .slice (some ⟨i, 0, none⟩) 0 0 ∧ vs 11 = mdV u lo (some ⟨h, 0, none⟩) n cr (some ⟨g, 0, none⟩) 0 0 (some ⟨i, 0, none⟩) 0 0 be gu
 | 10 => ∃ N, vs 0 = .pointer (some ⟨N, 0, none⟩) ∧ S ≤ N ∧ Blk wx N 47 #[.int .i64 0, .int .i64 0, .slice none 0 0, .slice none 0 0, .slice none 0 0, .int .i64 0, .int .i64 0]
 | _ => True
theorem GPm_keep {s S : Nat} {u lo : Int} {A : Option Addr} {n c : Nat} {l : List R2} {be gu : Int} {vs : Nat → Value} {wx wy : World} {v : Value} {j k : Nat} (h : GPm s S u lo A n c l be gu vs wx j) (hb : Below wx.heap.size wx wy)
 (hk : (j ≤ 8 → k ≠ j + 2) ∧ (j = 9 → k ≠ 4 ∧ k ≠ 5 ∧ k ≠ 6 ∧ k ≠ 11) ∧ (j = 10 → k ≠ 0)) : GPm s S u lo A n c l be gu (upd vs k v) wy j := by
 obtain ⟨h1, h2, h3⟩ := hk
 have hn : ∀ q, q ≠ k → upd vs k v q = vs q := fun q hq => upd_ne _ _ hq
 match j, h, h1, h2, h3 with
 | 0, h, h1, _, _ => have := h1 (by omega); show upd vs k v 2 = _; rw [hn 2 (by omega)]; exact h
 | 1, h, h1, _, _ => have := h1 (by omega); show upd vs k v 3 = _; rw [hn 3 (by omega)]; exact h
 | 2, h, h1, _, _ => have := h1 (by omega); obtain ⟨a, b, e, ho⟩ := h; exact ⟨a, b, by rw [hn 4 (by omega)]; exact e, own_ext ho hb⟩
 | 3, h, h1, _, _ => have := h1 (by omega); obtain ⟨a, e, hs, ho⟩ := h; exact ⟨a, by rw [hn 5 (by omega)]; exact e, hs, ho.ext hb⟩
 | 4, h, h1, _, _ => have := h1 (by omega); obtain ⟨a, e, hs, ho⟩ := h; exact ⟨a, by rw [hn 6 (by omega)]; exact e, hs, ho.ext hb⟩
 | 5, h, h1, _, _ => have := h1 (by omega); show upd vs k v 7 = _; rw [hn 7 (by omega)]; exact h
 | 6, h, h1, _, _ => have := h1 (by omega); show upd vs k v 8 = _; rw [hn 8 (by omega)]; exact h
 | 7, h, h1, _, _ => have := h1 (by omega); show upd vs k v 9 = _; rw [hn 9 (by omega)]; exact h
 | 8, h, h1, _, _ => have := h1 (by omega); show upd vs k v 10 = _; rw [hn 10 (by omega)]; exact h
 | 9, h, _, h2, _ => have := h2 rfl; obtain ⟨a, b, c, d, e1, e2, e3, e4⟩ := h; exact ⟨a, b, c, d, by rw [hn 4 (by omega)]; exact e1, by rw [hn 5 (by omega)]; exact e2, by rw [hn 6 (by omega)]; exact e3, by rw [hn 11 (by omega)]; exact e4⟩
 | 10, h, _, _, h3 => have := h3 rfl; obtain ⟨a, e, hs, ho⟩ := h; exact ⟨a, by rw [hn 0 (by omega)]; exact e, hs, ho.ext hb⟩
 | j + 11, _, _, _, _ => trivial
def FINm (S : Nat) (W0 : World) (u lo : Int) (n : Nat) (l : List R2) (be gu : Int) (vs : Nat → Value) (wx : World) : Prop :=
 ∃ (N h cr g i : Nat), vs 0 = .pointer (some ⟨N, 0, none⟩) ∧ Blk wx N 47 (mdC u lo (some ⟨h, 0, none⟩) n cr (some ⟨g, 0, none⟩) 0 0 (some ⟨i, 0, none⟩) 0 0 be gu) ∧ S ≤ N ∧ g ≠ i ∧ wx.ownsRow S 155 2 (.slice (some ⟨h, 0, none⟩) n cr) n (rowsV2 l) ∧ wx.ownsRow S 3 1 (.slice (some ⟨g, 0, none⟩) 0 0) 0 [] ∧ wx.ownsRow S 3 1 (.slice (some ⟨i, 0, none⟩) 0 0) 0 [] ∧ Below S W0 wx
def GQm (S N s b o n c j i ic : Nat) (r : R2) : Nat → Value → World → Prop
 | 0, v, _ => v = .pointer (some ⟨N, 4, none⟩)
 | 1, v, _ => v = .slice (some ⟨i, 0, none⟩) j ic
 | 2, v, _ => v = .pointer (some ⟨s, 0, none⟩)
 | 3, v, _ => v = .pointer (some ⟨s, 2, none⟩)
 | 4, v, _ => v = .slice (some ⟨b, o, none⟩) n c
 | 5, v, _ => v = .int .i64 j
 | 6, v, _ => v = .pointer (some ⟨b, o + j * 2, none⟩)
 | 7, v, _ => v = r.val
 | 8, v, _ => v = .int .i64 (dv r)
 | 9, v, wx => ∃ x, v = .slice (some ⟨x, 0, none⟩) 1 1 ∧ S ≤ x ∧ Blk wx x 3 #[.int .i64 (dv r)]
 | _, _, _ => True
theorem GQm_keep {S N s b o n c j i ic : Nat} {r : R2} {q : Nat} {v : Value} {wx wy : World} (h : GQm S N s b o n c j i ic r q v wx) (hb : Below wx.heap.size wx wy) : GQm S N s b o n c j i ic r q v wy := by
 match q, h with
 | 0, h => exact h
 | 1, h => exact h
 | 2, h => exact h
 | 3, h => exact h
 | 4, h => exact h
 | 5, h => exact h
 | 6, h => exact h
 | 7, h => exact h
 | 8, h => exact h
 | 9, h => obtain ⟨x, e, hs, hx⟩ := h; exact ⟨x, e, hs, hx.ext hb⟩
 | q + 10, _ => trivial
set_option maxRecDepth 100000 in
set_option maxHeartbeats 8000000 in
theorem l21Look_one (u lo : Int) (A : Option Addr) (n c : Nat) (l : List R2) (K : Option Addr) (k kc' : Nat) (I : Option Addr) (m ic' : Nat) (be gu : Int) (w : World) (hg : goodB u lo l = true) (h : Reads w w.heap.size 2 A n (rowsV2 l)) :
 Calls Try.prog 139 #[mdV u lo A n c K k kc' I m ic' be gu] w (RetMd w u lo n l (List.replicate n 5) (dsOf l) be gu) := by
 have hl := rows_len2 h
 have hfr := good_fr hg
 obtain ⟨_, _, hn1, hn8⟩ := frB_head hfr
 rw [hl] at hn1 hn8
 have HF := Lib.hid hfr
 have HL := Lib.hid hl
 obtain ⟨i0, hi, hz0, hz1, hz2⟩ := info_parts info_int
 have H := Lib.hid h
 have BM0 := Lib.hid ((Blk.born w (mdC u lo A n c K k kc' I m ic' be gu) 47 (H := w.heap.size) rfl).al (.cells #[.int .i64 0, .int .i64 0, .slice none 0 0, .slice none 0 0, .slice none 0 0, .int .i64 0, .int .i64 0] 47))
 have BR0 := Lib.hid (Blk.born (w.alloc (.cells (mdC u lo A n c K k kc' I m ic' be gu) 47)) #[.int .i64 0, .int .i64 0, .slice none 0 0, .slice none 0 0, .slice none 0 0, .int .i64 0, .int .i64 0] 47 (H := w.heap.size + 1) (by simp))
 have hbx := Lib.hid (ext_alloc (ext_alloc (ext_refl w) (.cells (mdC u lo A n c K k kc' I m ic' be gu) 47)) (.cells #[.int .i64 0, .int .i64 0, .slice none 0 0, .slice none 0 0, .slice none 0 0, .int .i64 0, .int .i64 0] 47))
 clear h hl hfr hg
 go_enter Try.func139, Try.ntmps139
 go_upto_region 1 with fail
 obtain ⟨W0, hW0⟩ : ∃ y : World, y = ((w.alloc (.cells (mdC u lo A n c K k kc' I m ic' be gu) 47)).alloc (.cells #[.int .i64 0, .int .i64 0, .slice none 0 0, .slice none 0 0, .slice none 0 0, .int .i64 0, .int .i64 0] 47)) := ⟨_, rfl⟩
 rw [← hW0] at BM0 BR0 hbx
 rw [← hW0]
 clear hW0
 obtain ⟨d0, d1, d2, d3, d4, d5, d6⟩ := BM0.out.q7
 have hMl := BM0.out.lt
 have hRl := BR0.out.lt
 have hs0 := hbx.out.size
 have HW := Lib.hid W0.heap.size.le_refl
 refine wp_region_slots (by kernel_rfl) (by kernel_rfl) 3 12 (fun _ => undef) (by kernel_rfl) (fun a0 => a0.eval (.tmp 1) = .pointer (some ⟨w.heap.size, 0, none⟩) ∧ 15 ≤ a0.tmps.size) ⟨by kernel_rfl, by simp⟩ (fun listed vs wx => (¬ lst listed 11 ∧ Below W0.heap.size W0 wx ∧ (∀ j, lst listed j → GPm w.heap.size W0.heap.size u lo A n c l be gu vs wx j) ∧ (lst listed 3 → lst listed 4 → vs 5 ≠ vs 6)) ∨ (lst listed 11 ∧ FINm W0.heap.size W0 u lo n l be gu vs wx)) ?_ ?_ ?_
 · exact .inl ⟨lst_rep, (ext_refl W0).drew, fun j hj => absurd hj lst_rep, fun hj => absurd hj lst_rep⟩
 · rintro a0 listed vs wx i o ⟨q1, qsz⟩ hJ hcl hil hni ho hdep
   have hi12 : i < 12 := by
    rcases Nat.lt_or_ge i 12 with h | h
    · exact h
    · rw [Array.getElem?_eq_none (by simpa using h)] at ho; cases ho
   have c9 : lst listed 9 → lst listed 2 ∧ lst listed 3 ∧ lst listed 4 := fun h => ⟨hcl 9 _ rfl h ⟨2, .data⟩ (by simp) rfl, hcl 9 _ rfl h ⟨3, .data⟩ (by simp) rfl, hcl 9 _ rfl h ⟨4, .data⟩ (by simp) rfl⟩
   have c11 : lst listed 11 → ∀ j, j < 11 → lst listed j := by
    intro h j hj
    have h0 := hcl 11 _ rfl h ⟨0, .phase⟩ (by simp) rfl
    have h1 := hcl 11 _ rfl h ⟨1, .phase⟩ (by simp) rfl
    have h2 := hcl 11 _ rfl h ⟨2, .phase⟩ (by simp) rfl
    have h3 := hcl 11 _ rfl h ⟨3, .phase⟩ (by simp) rfl
    have h4 := hcl 11 _ rfl h ⟨4, .phase⟩ (by simp) rfl
    have h5 := hcl 11 _ rfl h ⟨5, .phase⟩ (by simp) rfl
    have h6 := hcl 11 _ rfl h ⟨6, .phase⟩ (by simp) rfl
    have h7 := hcl 11 _ rfl h ⟨7, .phase⟩ (by simp) rfl
    have h8 := hcl 11 _ rfl h ⟨8, .phase⟩ (by simp) rfl
    have h9 := hcl 11 _ rfl h ⟨9, .phase⟩ (by simp) rfl
    have h10 := hcl 11 _ rfl h ⟨10, .phase⟩ (by simp) rfl
    rcases (show j = 0 ∨ j = 1 ∨ j = 2 ∨ j = 3 ∨ j = 4 ∨ j = 5 ∨ j = 6 ∨ j = 7 ∨ j = 8 ∨ j = 9 ∨ j = 10 by omega) with rfl | rfl | rfl | rfl | rfl | rfl | rfl | rfl | rfl | rfl | rfl <;> assumption
   rcases hJ with ⟨n11, hB, hG, hD⟩ | hfin
   · have pre : ∀ (i k : Nat) (v : Value) (w' : World), ((i ≤ 9 ∧ k = i + 2) ∨ (i = 10 ∧ k = 0)) → ¬ lst listed i → Below wx.heap.size wx w' → GPm w.heap.size W0.heap.size u lo A n c l be gu (upd vs k v) w' i → (lst (listed.setIfInBounds i true) 3 → lst (listed.setIfInBounds i true) 4 → upd vs k v 5 ≠ upd vs k v 6) →
      (¬ lst (listed.setIfInBounds i true) 11 ∧ Below W0.heap.size W0 w' ∧ (∀ j, lst (listed.setIfInBounds i true) j → GPm w.heap.size W0.heap.size u lo A n c l be gu (upd vs k v) w' j) ∧ (lst (listed.setIfInBounds i true) 3 → lst (listed.setIfInBounds i true) 4 → upd vs k v 5 ≠ upd vs k v 6)) ∨ (lst (listed.setIfInBounds i true) 11 ∧ FINm W0.heap.size W0 u lo n l be gu (upd vs k v) w') := by
      intro i k v w' hik hni hb hP hd
      refine .inl ⟨fun h => ?_, ext_trans hB hb, fun j hj => ?_, hd⟩
      · rcases lst_set.1 h with ⟨h, _⟩ | h
        · omega
        · exact n11 h
      · by_cases e : j = i
        · subst e; exact hP
        · have hj' := (lst_set.1 hj).resolve_left (fun h => e h.1)
          refine GPm_keep (hG j hj') hb ⟨fun _ => by omega, fun h9 => ?_, fun _ => by omega⟩
          subst h9
          obtain ⟨e2, e3, e4⟩ := c9 hj'
          refine ⟨fun h => ?_, fun h => ?_, fun h => ?_, by omega⟩
          · exact hni (by rw [show i = 2 by omega]; exact e2)
          · exact hni (by rw [show i = 3 by omega]; exact e3)
          · exact hni (by rw [show i = 4 by omega]; exact e4)
     have dsame : ∀ (i k : Nat) (v : Value), k ≠ 5 → k ≠ 6 → i ≠ 3 → i ≠ 4 → lst (listed.setIfInBounds i true) 3 → lst (listed.setIfInBounds i true) 4 → upd vs k v 5 ≠ upd vs k v 6 := by
      intro i k v h5 h6 i3 i4 l3 l4
      rw [upd_ne _ _ (Ne.symm h5), upd_ne _ _ (Ne.symm h6)]
      exact hD ((lst_set.1 l3).resolve_left (fun h => i3 h.1.symm)) ((lst_set.1 l4).resolve_left (fun h => i4 h.1.symm))
     have PRE := Lib.hid pre
     have DS := Lib.hid dsame
     have HG := Lib.hid hG
     have HD := Lib.hid hD
     have HB := Lib.hid hB
     have BMx := BM0.out.ext hB
     have sMx := BMx.lt
     obtain ⟨x0, x1, x2, x3, x4, x5, x6⟩ := BMx.q7
     clear pre dsame hG hD c9 c11 hcl BMx
     rcases (show i = 0 ∨ i = 1 ∨ i = 2 ∨ i = 3 ∨ i = 4 ∨ i = 5 ∨ i = 6 ∨ i = 7 ∨ i = 8 ∨ i = 9 ∨ i = 10 ∨ i = 11 by omega) with rfl | rfl | rfl | rfl | rfl | rfl | rfl | rfl | rfl | rfl | rfl | rfl
     · refine wpOp_slotsK (k := 2) rfl (by decide) qsz (fun b K b0 bk HK => ?_)
       have p1 := (b0 1 (by decide)).trans q1
       clear b0 bk
       go_simp
       exact HK _ _ (PRE.out 0 2 _ _ (by omega) hni (ext_refl _) (upd_same _ _ _) (DS.out 0 2 _ (by decide) (by decide) (by decide) (by decide)))
     · have e0 : vs 2 = .pointer (some ⟨w.heap.size, 0, none⟩) := HG.out 0 (by cases ho; exact hdep ⟨0, .data⟩ (by simp) rfl)
       refine wpOp_slotsK (k := 3) rfl (by decide) qsz (fun b K b0 bk HK => ?_)
       have p1 := (b0 1 (by decide)).trans q1
       have p5 := (bk 2 (by decide)).trans e0
       clear b0 bk
       go_simp
       exact HK _ _ (PRE.out 1 3 _ _ (by omega) hni (ext_refl _) (upd_same _ _ _) (DS.out 1 3 _ (by decide) (by decide) (by decide) (by decide)))
     · have e0 : vs 3 = frV u lo A n c := HG.out 1 (by cases ho; exact hdep ⟨1, .data⟩ (by simp) rfl)
       refine wpOp_slotsK (k := 4) rfl (by decide) qsz (fun b K b0 bk HK => ?_)
       have p1 := (b0 1 (by decide)).trans q1
       have p6 := (bk 3 (by decide)).trans e0
       clear b0 bk
       go_simp
       refine (l2Own_fr u lo A n c l _ hn1 (by omega) (rdx H.out (ext_trans hbx.out HB.out))).mono ?_
       rintro e w' ⟨h, cr, rfl, hr, hb⟩
       go_simp
       exact HK _ _ (PRE.out 2 4 _ _ (by omega) hni hb ⟨h, cr, upd_same _ _ _, own_base hr HB.out.size⟩ (DS.out 2 4 _ (by decide) (by decide) (by decide) (by decide)))
     · refine wpOp_slotsK (k := 5) rfl (by decide) qsz (fun b K b0 bk HK => ?_)
       have p1 := (b0 1 (by decide)).trans q1
       clear b0 bk
       go_simp
       exact HK _ _ (PRE.out 3 5 _ _ (by omega) hni (ext_alloc (ext_refl _) _) ⟨wx.heap.size, upd_same _ _ _, HB.out.size, Blk.born _ _ _ rfl⟩ (fun l3 l4 => by
        have hl := (lst_set.1 l4).resolve_left (fun h => absurd h.1 (by decide))
        obtain ⟨g', e', _, hb'⟩ := HG.out 4 hl
        have hlt := hb'.lt
        have e' : vs 6 = .slice (some ⟨g', 0, none⟩) 0 0 := e'
        rw [upd_same, upd_ne _ _ (by decide), e']
        intro e
        injection e with e
        injection e with e
        injection e with e
        omega))
     · refine wpOp_slotsK (k := 6) rfl (by decide) qsz (fun b K b0 bk HK => ?_)
       have p1 := (b0 1 (by decide)).trans q1
       clear b0 bk
       go_simp
       exact HK _ _ (PRE.out 4 6 _ _ (by omega) hni (ext_alloc (ext_refl _) _) ⟨wx.heap.size, upd_same _ _ _, HB.out.size, Blk.born _ _ _ rfl⟩ (fun l3 l4 => by
        have hl := (lst_set.1 l3).resolve_left (fun h => absurd h.1 (by decide))
        obtain ⟨g', e', _, hb'⟩ := HG.out 3 hl
        have hlt := hb'.lt
        have e' : vs 5 = .slice (some ⟨g', 0, none⟩) 0 0 := e'
        rw [upd_same, upd_ne _ _ (by decide), e']
        intro e
        injection e with e
        injection e with e
        injection e with e
        omega))
     · refine wpOp_slotsK (k := 7) rfl (by decide) qsz (fun b K b0 bk HK => ?_)
       have p1 := (b0 1 (by decide)).trans q1
       clear b0 bk
       go_simp
       exact HK _ _ (PRE.out 5 7 _ _ (by omega) hni (ext_refl _) (upd_same _ _ _) (DS.out 5 7 _ (by decide) (by decide) (by decide) (by decide)))
     · have e0 : vs 7 = .pointer (some ⟨w.heap.size, 5, none⟩) := HG.out 5 (by cases ho; exact hdep ⟨5, .data⟩ (by simp) rfl)
       refine wpOp_slotsK (k := 8) rfl (by decide) qsz (fun b K b0 bk HK => ?_)
       have p1 := (b0 1 (by decide)).trans q1
       have p5 := (bk 7 (by decide)).trans e0
       clear b0 bk
       go_simp
       exact HK _ _ (PRE.out 6 8 _ _ (by omega) hni (ext_refl _) (upd_same _ _ _) (DS.out 6 8 _ (by decide) (by decide) (by decide) (by decide)))
     · refine wpOp_slotsK (k := 9) rfl (by decide) qsz (fun b K b0 bk HK => ?_)
       have p1 := (b0 1 (by decide)).trans q1
       clear b0 bk
       go_simp
       exact HK _ _ (PRE.out 7 9 _ _ (by omega) hni (ext_refl _) (upd_same _ _ _) (DS.out 7 9 _ (by decide) (by decide) (by decide) (by decide)))
     · have e0 : vs 9 = .pointer (some ⟨w.heap.size, 6, none⟩) := HG.out 7 (by cases ho; exact hdep ⟨7, .data⟩ (by simp) rfl)
       refine wpOp_slotsK (k := 10) rfl (by decide) qsz (fun b K b0 bk HK => ?_)
       have p1 := (b0 1 (by decide)).trans q1
       have p5 := (bk 9 (by decide)).trans e0
       clear b0 bk
       go_simp
       exact HK _ _ (PRE.out 8 10 _ _ (by omega) hni (ext_refl _) (upd_same _ _ _) (DS.out 8 10 _ (by decide) (by decide) (by decide) (by decide)))
     · obtain ⟨h, cr, e2, _⟩ : ∃ h cr, vs 4 = frV u lo (some ⟨h, 0, none⟩) n cr ∧ wx.ownsRow W0.heap.size 155 2 (.slice (some ⟨h, 0, none⟩) n cr) n (rowsV2 l) := HG.out 2 (by cases ho; exact hdep ⟨2, .data⟩ (by simp) rfl)
       obtain ⟨g, e3, _⟩ : ∃ g, vs 5 = .slice (some ⟨g, 0, none⟩) 0 0 ∧ W0.heap.size ≤ g ∧ Blk wx g 3 #[] := HG.out 3 (by cases ho; exact hdep ⟨3, .data⟩ (by simp) rfl)
       obtain ⟨ii, e4, _⟩ : ∃ g, vs 6 = .slice (some ⟨g, 0, none⟩) 0 0 ∧ W0.heap.size ≤ g ∧ Blk wx g 3 #[] := HG.out 4 (by cases ho; exact hdep ⟨4, .data⟩ (by simp) rfl)
       have e6 : vs 8 = .int .i64 be := HG.out 6 (by cases ho; exact hdep ⟨6, .data⟩ (by simp) rfl)
       have e8 : vs 10 = .int .i64 gu := HG.out 8 (by cases ho; exact hdep ⟨8, .data⟩ (by simp) rfl)
       refine wpOp_slotsK (k := 11) rfl (by decide) qsz (fun b K b0 bk HK => ?_)
       have p1 := (b0 1 (by decide)).trans q1
       have p7 := (bk 4 (by decide)).trans e2
       have p8 := (bk 5 (by decide)).trans e3
       have p9 := (bk 6 (by decide)).trans e4
       have p11 := (bk 8 (by decide)).trans e6
       have p13 := (bk 10 (by decide)).trans e8
       clear b0 bk
       go_simp
       exact HK _ _ (PRE.out 9 11 _ _ (by omega) hni (ext_refl _) ⟨h, cr, g, ii, by rw [upd_ne _ _ (by decide)]; exact e2, by rw [upd_ne _ _ (by decide)]; exact e3, by rw [upd_ne _ _ (by decide)]; exact e4, upd_same _ _ _⟩ (DS.out 9 11 _ (by decide) (by decide) (by decide) (by decide)))
     · refine wpOp_slotsK (k := 0) rfl (by decide) qsz (fun b K b0 bk HK => ?_)
       have p1 := (b0 1 (by decide)).trans q1
       clear b0 bk
       go_simp
       exact HK _ _ (PRE.out 10 0 _ _ (by omega) hni (ext_alloc (ext_refl _) _) ⟨wx.heap.size, upd_same _ _ _, HB.out.size, Blk.born _ _ _ rfl⟩ (DS.out 10 0 _ (by decide) (by decide) (by decide) (by decide)))
     · obtain ⟨h, cr, g, ii, e2, e3, e4, e9⟩ : ∃ h cr g i, vs 4 = frV u lo (some ⟨h, 0, none⟩) n cr ∧ vs 5 = .slice (some ⟨g, 0, none⟩) 0 0 ∧ vs 6 = .slice (some ⟨i, 0, none⟩) 0 0 ∧ vs 11 = mdV u lo (some ⟨h, 0, none⟩) n cr (some ⟨g, 0, none⟩) 0 0 (some ⟨i, 0, none⟩) 0 0 be gu := HG.out 9 (by cases ho; exact hdep ⟨9, .data⟩ (by simp) rfl)
       obtain ⟨N, e10, hN, hBN⟩ : ∃ N, vs 0 = .pointer (some ⟨N, 0, none⟩) ∧ W0.heap.size ≤ N ∧ Blk wx N 47 #[.int .i64 0, .int .i64 0, .slice none 0 0, .slice none 0 0, .slice none 0 0, .int .i64 0, .int .i64 0] := HG.out 10 (by cases ho; exact hdep ⟨10, .data⟩ (by simp) rfl)
       obtain ⟨h', cr', e2', hr⟩ : ∃ h cr, vs 4 = frV u lo (some ⟨h, 0, none⟩) n cr ∧ wx.ownsRow W0.heap.size 155 2 (.slice (some ⟨h, 0, none⟩) n cr) n (rowsV2 l) := HG.out 2 (by cases ho; exact hdep ⟨2, .phase⟩ (by simp) rfl)
       obtain ⟨g', e3', hg', hbg⟩ : ∃ g, vs 5 = .slice (some ⟨g, 0, none⟩) 0 0 ∧ W0.heap.size ≤ g ∧ Blk wx g 3 #[] := HG.out 3 (by cases ho; exact hdep ⟨3, .phase⟩ (by simp) rfl)
       obtain ⟨i', e4', hi', hbi⟩ : ∃ g, vs 6 = .slice (some ⟨g, 0, none⟩) 0 0 ∧ W0.heap.size ≤ g ∧ Blk wx g 3 #[] := HG.out 4 (by cases ho; exact hdep ⟨4, .phase⟩ (by simp) rfl)
       have hne := HD.out (by cases ho; exact hdep ⟨3, .phase⟩ (by simp) rfl) (by cases ho; exact hdep ⟨4, .phase⟩ (by simp) rfl)
       rw [e2] at e2'
       rw [e3] at e3' hne
       rw [e4] at e4' hne
       injection e2' with e2'
       simp at e2' e3' e4' hne
       obtain ⟨rfl, rfl⟩ := e2'
       subst e3' e4'
       have hNl := hBN.lt
       obtain ⟨y0, y1, y2, y3, y4, y5, y6⟩ := hBN.q7
       obtain ⟨v0, v1, v2, v3, v4, v5, v6⟩ := hBN.z7
       have HR := Lib.hid (own_nbT hr hBN (by decide))
       have HO1 := Lib.hid (own_of_blk (B := W0.heap.size) (size := 1) hbg hg')
       have HO2 := Lib.hid (own_of_blk (B := W0.heap.size) (size := 1) hbi hi')
       have HR1 := Lib.hid (own_nbT HO1.out hBN (by decide))
       have HR2 := Lib.hid (own_nbT HO2.out hBN (by decide))
       have HRR := Lib.hid hr
       have HBN := Lib.hid hBN
       clear hr hBN hbg hbi
       refine wpOp_last rfl qsz (fun b K b0 bk HK => ?_)
       have p3 := (bk 0 (by decide)).trans e10
       have p14 := (bk 11 (by decide)).trans e9
       clear b0 bk
       go_simp
       exact HK _ (.inr ⟨lst_set.2 (.inl ⟨rfl, hil⟩), N, h, cr, g, ii, e10, m7_put HBN.out, hN, hne, m7_own HRR.out HR.out, m7_own HO1.out HR1.out, m7_own HO2.out HR2.out, m7_below HB.out hN⟩)
   · obtain ⟨h11, _⟩ := hfin
     rcases Nat.lt_or_ge i 11 with h | h
     · exact absurd (c11 h11 i h) hni
     · exact absurd h11 (by rw [show (11 : Nat) = i by omega]; exact hni)
 · intro listed vs wx hJ hall
   rcases hJ with ⟨n11, _⟩ | ⟨_, N, h, cr, g, i, e0, hBN, hN, hne, hr, h1, h2, hb⟩
   · exact absurd (hall 11 (by decide)) n11
   · have HR := Lib.hid hr
     have HBN := Lib.hid hBN
     have HO1 := Lib.hid h1
     have HO2 := Lib.hid h2
     have HBB := Lib.hid hb
     clear hr hBN h1 h2 hb hall
     simp only [slots]
     rw [e0]
     obtain ⟨w3, hw3⟩ : ∃ y : World, y = wx := ⟨_, rfl⟩
     subst hw3
     have hN1 : w.heap.size + 1 < N := by omega
     have HDS := Lib.hid (show (dsOf l).length = n by rw [dsOf_len]; exact HL.out)
     have HNR := Lib.hid (own_base (base' := w.heap.size) HR.out hs0)
     have HN1 := Lib.hid (own_base (base' := w.heap.size) HO1.out hs0)
     have HN2 := Lib.hid (own_base (base' := w.heap.size) HO2.out hs0)
     have hbN := Lib.hid (ext_trans hbx.out HBB.out)
     have BMN := Lib.hid (BM0.out.ext HBB.out)
     have BRN := Lib.hid (BR0.out.ext HBB.out)
     have sMN := BMN.out.lt
     obtain ⟨t0, t1, t2, t3, t4, t5, t6⟩ := BMN.out.q7
     have hNM : N ≠ w.heap.size := by omega
     have hNR : N ≠ w.heap.size + 1 := by omega
     clear HR HO1 HO2 hbx HBB BM0 BR0 hs0 d0 d1 d2 d3 d4 d5 d6 hMl hRl hN HW
     go_wp2_with fail
     go_loopw [4] (fun v wr => ∃ (j g kc i ic : Nat), j ≤ n ∧ v = .int .i64 j ∧ g ≠ i ∧ Hid (Blk wr N 47 (mdC u lo (some ⟨h, 0, none⟩) n cr (some ⟨g, 0, none⟩) j kc (some ⟨i, 0, none⟩) j ic be gu)) ∧ Hid (wr.ownsRow w.heap.size 155 2 (.slice (some ⟨h, 0, none⟩) n cr) n (rowsV2 l)) ∧ Hid (wr.ownsRow w.heap.size 3 1 (.slice (some ⟨g, 0, none⟩) j kc) j (intsV (List.replicate j 5))) ∧ Hid (wr.ownsRow w.heap.size 3 1 (.slice (some ⟨i, 0, none⟩) j ic) j (intsV ((dsOf l).take j))) ∧ Hid (Below w.heap.size w wr) ∧ Hid (Blk wr w.heap.size 47 (mdC u lo A n c K k kc' I m ic' be gu)) ∧ Hid (Blk wr (w.heap.size + 1) 47 #[.int .i64 0, .int .i64 0, .slice none 0 0, .slice none 0 0, .slice none 0 0, .int .i64 0, .int .i64 0])) (fun v _ => n - (intOf v).toNat)
     case atStart => exact ⟨0, g, 0, i, 0, Nat.zero_le _, rfl, hne, HBN, HNR, HN1, HN2, hbN, BMN, BRN⟩
     case round =>
      clear HBN HNR HN1 HN2 hbN BMN BRN sMN t0 t1 t2 t3 t4 t5 t6 hne
      obtain ⟨j, g, kc, i, ic, hj, rfl, hne, BNr, HRr, HCr, HIr, hbr, BMr, BRr⟩ := hrel
      obtain ⟨d0, d1, d2, d3, d4, d5, d6⟩ := BNr.out.q7
      obtain ⟨z0, z1, z2, z3, z4, z5, z6⟩ := BNr.out.z7
      obtain ⟨t0, t1, t2, t3, t4, t5, t6⟩ := BMr.out.q7
      have sN := BNr.out.lt
      have sM := BMr.out.lt
      have szr := hbr.out.size
      by_cases hlt : j < n
      · obtain ⟨r, hr⟩ := list_split (l := l) (k := j) (by rw [HL.out]; exact hlt)
        have hsm := Lib.hid (frB_Sm HF.out hr)
        have hdr := Lib.hid (show (dsOf l).take (j + 1) = (dsOf l).take j ++ [dv r] by rw [List.take_add_one]; simp [dsOf, hr])
        obtain ⟨b, o, rfl, hb, c0, c1⟩ := rows_at2 H.out hr
        clear hr
        have m1 : j + 1 ≤ maxLen := by unfold maxLen; omega
        have m2 : (j + 1) * 8 ≤ 140737488355328 := by omega
        go_wp2_with (at_builtin; refine wpList_append_own_at _ rfl (.tmp 24) (.tmp 25) 40 rfl w.heap.size 3 i0 _ 1 8 Try.underlying40 hi hz0 hz1 hz2 rfl (by decide) (.slice (some ⟨g, 0, none⟩) j kc) j (intsV (List.replicate j 5)) rfl (HCr.out.alloc (.cells #[.int .i64 5] 3)) _ 1 1 [.int .i64 5] rfl rfl (cells_new_at _ [.int .i64 5] _ (by simp)) (by simp [Value.oneCell']) m1 m2 (by simp; omega) ?_; intro v' w6 hown hgrow _ hat; obtain ⟨g6, cap6, hv6, _, _⟩ := hown.form (by omega); subst hv6; have BN6 := Blk.grownF (BNr.out.al (.cells #[.int .i64 5] 3)) hgrow (own_nbT (HCr.out.alloc (.cells #[.int .i64 5] 3)) (BNr.out.al (.cells #[.int .i64 5] 3)) (by decide)); obtain ⟨e0, e1, e2, e3, e4, e5, e6⟩ := BN6.q7; obtain ⟨f0, f1, f2, f3, f4, f5, f6⟩ := BN6.z7; have sN6 := BN6.lt; have HGR := Lib.hid hgrow; have HOW := Lib.hid hown; have HAT := Lib.hid hat; have BN6 := Lib.hid BN6; clear hown hgrow hat)
        obtain ⟨W, hW⟩ : ∃ y : World, y = w6.setCell ⟨N, 3, none⟩ (.slice (some ⟨g6, 0, none⟩) (j + 1) cap6) := ⟨_, rfl⟩
        have hg6 : g6 ≠ i := by
         have hgi : i < wr.heap.size := (HIr.out.lt _ rfl).2
         rcases HAT.out with h9 | h9
         · have h9 : some g6 = some g := h9
           injection h9 with h9
           rw [h9]; exact hne
         · have h9 : some g6 = some (wr.alloc (.cells #[.int .i64 5] 3)).heap.size := h9
           injection h9 with h9
           rw [World.size_alloc] at h9
           omega
        have HR6 := Lib.hid ((HRr.out.alloc (.cells #[.int .i64 5] 3)).kept HGR.out (own_neT (HRr.out.alloc (.cells #[.int .i64 5] 3)) (HCr.out.alloc (.cells #[.int .i64 5] 3)) (by decide)))
        have HI6 := Lib.hid ((HIr.out.alloc (.cells #[.int .i64 5] 3)).kept HGR.out (.inr (by intro e; injection e with e; exact hne e.symm)))
        have BM6 := Lib.hid (Blk.grownF (BMr.out.al (.cells #[.int .i64 5] 3)) HGR.out (own_nbT (HCr.out.alloc (.cells #[.int .i64 5] 3)) (BMr.out.al (.cells #[.int .i64 5] 3)) (by decide)))
        have BR6 := Lib.hid (Blk.grownF (BRr.out.al (.cells #[.int .i64 5] 3)) HGR.out (own_nbT (HCr.out.alloc (.cells #[.int .i64 5] 3)) (BRr.out.al (.cells #[.int .i64 5] 3)) (by decide)))
        have hb6 := Lib.hid (below_grown' (HCr.out.alloc (.cells #[.int .i64 5] 3)) (Nat.le_refl _) (ext_alloc hbr.out (.cells #[.int .i64 5] 3)) HGR.out)
        have BNW := Lib.hid (show Blk W N 47 (mdC u lo (some ⟨h, 0, none⟩) n cr (some ⟨g6, 0, none⟩) (j + 1) cap6 (some ⟨i, 0, none⟩) j ic be gu) by rw [hW]; exact BN6.out.set_ 3 _)
        have HRW := Lib.hid (show W.ownsRow w.heap.size 155 2 (.slice (some ⟨h, 0, none⟩) n cr) n (rowsV2 l) by rw [hW]; exact own_setF (p := ⟨N, 3, none⟩) HR6.out (own_nbT HR6.out BN6.out (by decide)) _)
        have HCW := Lib.hid (show W.ownsRow w.heap.size 3 1 (.slice (some ⟨g6, 0, none⟩) (j + 1) cap6) (j + 1) (intsV (List.replicate (j + 1) 5)) by rw [hW]; refine own_setF (p := ⟨N, 3, none⟩) ?_ (own_nbT HOW.out BN6.out (by decide)) _; have := HOW.out; simpa [intsV, List.replicate_succ'] using this)
        have HIW := Lib.hid (show W.ownsRow w.heap.size 3 1 (.slice (some ⟨i, 0, none⟩) j ic) j (intsV ((dsOf l).take j)) by rw [hW]; exact own_setF (p := ⟨N, 3, none⟩) HI6.out (own_nbT HI6.out BN6.out (by decide)) _)
        have BMW := Lib.hid (show Blk W w.heap.size 47 _ by rw [hW]; exact BM6.out.setF (p := ⟨N, 3, none⟩) hNM _)
        have BRW := Lib.hid (show Blk W (w.heap.size + 1) 47 _ by rw [hW]; exact BR6.out.setF (p := ⟨N, 3, none⟩) hNR _)
        have hbW := Lib.hid (show Below w.heap.size w W by rw [hW]; exact ext_set hb6.out (p := ⟨N, 3, none⟩) (by show w.heap.size ≤ N; omega) _)
        rw [← hW]
        clear hW HR6 HI6 BM6 BR6 hb6 BN6 HGR HOW HAT HCr HRr HIr BNr BMr BRr hbr d0 d1 d2 d3 d4 d5 d6 z0 z1 z2 z3 z4 z5 z6 t0 t1 t2 t3 t4 t5 t6 e0 e1 e2 e3 e4 e5 e6 f0 f1 f2 f3 f4 f5 f6 sN sM szr sN6 hne
        obtain ⟨d0, d1, d2, d3, d4, d5, d6⟩ := BNW.out.q7
        obtain ⟨z0, z1, z2, z3, z4, z5, z6⟩ := BNW.out.z7
        obtain ⟨t0, t1, t2, t3, t4, t5, t6⟩ := BMW.out.q7
        have sN := BNW.out.lt
        have sM := BMW.out.lt
        have sW := hbW.out.size
        have hbl : b < W.heap.size := by omega
        have c0W : W.cell? ⟨b, o + j * 2, none⟩ = some (.int .i64 r.a) := (hbW.out.cell (p := ⟨b, o + j * 2, none⟩) hb).trans c0
        have c1W : W.cell? ⟨b, o + j * 2 + 1, none⟩ = some (.int .i64 r.b) := (hbW.out.cell (p := ⟨b, o + j * 2 + 1, none⟩) hb).trans c1
        clear c0 c1
        have hNb : N ≠ b := by omega
        have hiN := Lib.hid (own_nbT HIW.out BNW.out (by decide))
        have hiM := Lib.hid (own_nbT HIW.out BMW.out (by decide))
        have hiR := Lib.hid (own_nbT HIW.out BRW.out (by decide))
        have hib : Hid (Value.ownBlock (.slice (some ⟨i, 0, none⟩) j ic) ≠ some b) := Lib.hid (fun e => by have h8 : w.heap.size ≤ b := (HIW.out.lt b e).1; omega)
        refine wp_region_slots (by kernel_rfl) (by kernel_rfl) 28 12 (fun q => (#[u28, u29, u30, u31, u32, u33, u34, u35, u36, u37, u38, u39][q]?).getD undef) (by kernel_rfl) (fun a0 => a0.eval (.tmp 1) = .pointer (some ⟨w.heap.size, 0, none⟩) ∧ a0.eval (.tmp 3) = .pointer (some ⟨N, 0, none⟩) ∧ a0.eval (.tmp 4) = .int .i64 j ∧ 40 ≤ a0.tmps.size) ⟨by kernel_rfl, by kernel_rfl, by kernel_rfl, by simp⟩ (fun listed vs wx => (¬ lst listed 10 ∧ Below W.heap.size W wx ∧ ∀ q, lst listed q → GQm W.heap.size N w.heap.size b o n c j i ic r q (vs q) wx) ∨ (lst listed 10 ∧ ¬ lst listed 12 ∧ (lst listed 11 → vs 11 = .pointer (some ⟨N, 4, none⟩)) ∧ ∃ (g7 cap7 : Nat), vs 10 = .slice (some ⟨g7, 0, none⟩) (j + 1) cap7 ∧ g6 ≠ g7 ∧ Blk wx N 47 (mdC u lo (some ⟨h, 0, none⟩) n cr (some ⟨g6, 0, none⟩) (j + 1) cap6 (some ⟨i, 0, none⟩) j ic be gu) ∧ wx.ownsRow w.heap.size 155 2 (.slice (some ⟨h, 0, none⟩) n cr) n (rowsV2 l) ∧ wx.ownsRow w.heap.size 3 1 (.slice (some ⟨g6, 0, none⟩) (j + 1) cap6) (j + 1) (intsV (List.replicate (j + 1) 5)) ∧ wx.ownsRow w.heap.size 3 1 (.slice (some ⟨g7, 0, none⟩) (j + 1) cap7) (j + 1) (intsV ((dsOf l).take (j + 1))) ∧ Below w.heap.size w wx ∧ Blk wx w.heap.size 47 (mdC u lo (some ⟨b, o, none⟩) n c K k kc' I m ic' be gu) ∧ Blk wx (w.heap.size + 1) 47 #[.int .i64 0, .int .i64 0, .slice none 0 0, .slice none 0 0, .slice none 0 0, .int .i64 0, .int .i64 0]) ∨ (lst listed 12 ∧ ∃ (g7 cap7 : Nat), g6 ≠ g7 ∧ Blk wx N 47 (mdC u lo (some ⟨h, 0, none⟩) n cr (some ⟨g6, 0, none⟩) (j + 1) cap6 (some ⟨g7, 0, none⟩) (j + 1) cap7 be gu) ∧ wx.ownsRow w.heap.size 155 2 (.slice (some ⟨h, 0, none⟩) n cr) n (rowsV2 l) ∧ wx.ownsRow w.heap.size 3 1 (.slice (some ⟨g6, 0, none⟩) (j + 1) cap6) (j + 1) (intsV (List.replicate (j + 1) 5)) ∧ wx.ownsRow w.heap.size 3 1 (.slice (some ⟨g7, 0, none⟩) (j + 1) cap7) (j + 1) (intsV ((dsOf l).take (j + 1))) ∧ Below w.heap.size w wx ∧ Blk wx w.heap.size 47 (mdC u lo (some ⟨b, o, none⟩) n c K k kc' I m ic' be gu) ∧ Blk wx (w.heap.size + 1) 47 #[.int .i64 0, .int .i64 0, .slice none 0 0, .slice none 0 0, .slice none 0 0, .int .i64 0, .int .i64 0])) ?_ ?_ ?_
        · exact .inl ⟨lst_rep, (ext_refl W).drew, fun q hq => absurd hq lst_rep⟩
        · rintro a0 listed vs wx q o' ⟨q1, q3, q4, qsz⟩ hJ hcl hil hni ho hdep
          have hi13 : q < 13 := by
           rcases Nat.lt_or_ge q 13 with h | h
           · exact h
           · rw [Array.getElem?_eq_none (by simpa using h)] at ho; cases ho
          have c10 : lst listed 10 → ∀ q, q < 10 → lst listed q := by
           intro h q hq
           have h1 := hcl 10 _ rfl h ⟨1, .data⟩ (by simp) rfl
           have h9 := hcl 10 _ rfl h ⟨9, .data⟩ (by simp) rfl
           have h8 := hcl 9 _ rfl h9 ⟨8, .data⟩ (by simp) rfl
           have h7 := hcl 8 _ rfl h8 ⟨7, .data⟩ (by simp) rfl
           have h6 := hcl 7 _ rfl h7 ⟨6, .data⟩ (by simp) rfl
           have h5 := hcl 6 _ rfl h6 ⟨5, .data⟩ (by simp) rfl
           have h4 := hcl 6 _ rfl h6 ⟨4, .data⟩ (by simp) rfl
           have h3 := hcl 4 _ rfl h4 ⟨3, .data⟩ (by simp) rfl
           have h2 := hcl 3 _ rfl h3 ⟨2, .data⟩ (by simp) rfl
           have h0 := hcl 1 _ rfl h1 ⟨0, .data⟩ (by simp) rfl
           rcases (show q = 0 ∨ q = 1 ∨ q = 2 ∨ q = 3 ∨ q = 4 ∨ q = 5 ∨ q = 6 ∨ q = 7 ∨ q = 8 ∨ q = 9 by omega) with rfl | rfl | rfl | rfl | rfl | rfl | rfl | rfl | rfl | rfl <;> assumption
          have c12 : lst listed 12 → lst listed 10 ∧ lst listed 11 := fun h => ⟨hcl 12 _ rfl h ⟨10, .data⟩ (by simp) rfl, hcl 12 _ rfl h ⟨11, .data⟩ (by simp) rfl⟩
          have c11 : lst listed 11 → lst listed 10 := fun h => hcl 11 _ rfl h ⟨10, .phase⟩ (by simp) rfl
          have C10 := Lib.hid c10
          have C11 := Lib.hid c11
          have C12 := Lib.hid c12
          clear c10 c11 c12 hcl
          rcases hJ with ⟨n10, hB, hG⟩ | ⟨h10, n12, h11, g7, cap7, e10, hne7, hBN, hHR, hHC, hHI, hBB, hBM, hBR⟩ | ⟨h12, _⟩
          · have pre : ∀ (q : Nat) (v : Value) (w' : World), q ≠ 10 → Below wx.heap.size wx w' → GQm W.heap.size N w.heap.size b o n c j i ic r q v w' →
             (¬ lst (listed.setIfInBounds q true) 10 ∧ Below W.heap.size W w' ∧ ∀ p, lst (listed.setIfInBounds q true) p → GQm W.heap.size N w.heap.size b o n c j i ic r p (upd vs q v p) w') := by
             intro q v w' hq hb hP
             refine ⟨fun h => ?_, ext_trans hB hb, fun p hp => ?_⟩
             · rcases lst_set.1 h with ⟨h, _⟩ | h
               · exact hq h.symm
               · exact n10 h
             · by_cases e : p = q
               · subst e; rw [upd_same]; exact hP
               · rw [upd_ne _ _ e]
                 exact GQm_keep (hG p ((lst_set.1 hp).resolve_left (fun h => e h.1))) hb
            have PRE := Lib.hid pre
            have HG := Lib.hid hG
            have HB := Lib.hid hB
            have BNx := BNW.out.ext hB
            have BMx := BMW.out.ext hB
            have sNx := BNx.lt
            have sMx := BMx.lt
            obtain ⟨x0, x1, x2, x3, x4, x5, x6⟩ := BNx.q7
            obtain ⟨y0, y1, y2, y3, y4, y5, y6⟩ := BMx.q7
            have p0 := ext_cell hB c0W
            have p1' := ext_cell hB c1W
            have sbx : b < wx.heap.size := Nat.lt_of_lt_of_le hbl hB.size
            clear pre hG
            rcases (show q = 0 ∨ q = 1 ∨ q = 2 ∨ q = 3 ∨ q = 4 ∨ q = 5 ∨ q = 6 ∨ q = 7 ∨ q = 8 ∨ q = 9 ∨ q = 10 ∨ q = 11 ∨ q = 12 by omega) with rfl | rfl | rfl | rfl | rfl | rfl | rfl | rfl | rfl | rfl | rfl | rfl | rfl
            · refine wpOp_slotsK (k := 0) rfl (by decide) qsz (fun b' K' b0 bk HK => ?_)
              have p1 := (b0 1 (by decide)).trans q1
              have p3 := (b0 3 (by decide)).trans q3
              have p4 := (b0 4 (by decide)).trans q4
              clear b0 bk
              go_simp
              exact HK _ _ (.inl (PRE.out 0 _ _ (by decide) (ext_refl _) rfl))
            · have e0 : vs 0 = .pointer (some ⟨N, 4, none⟩) := HG.out 0 (by cases ho; exact hdep ⟨0, .data⟩ (by simp) rfl)
              refine wpOp_slotsK (k := 1) rfl (by decide) qsz (fun b' K' b0 bk HK => ?_)
              have p1 := (b0 1 (by decide)).trans q1
              have p3 := (b0 3 (by decide)).trans q3
              have p4 := (b0 4 (by decide)).trans q4
              have k0 := (bk 0 (by decide)).trans e0
              clear b0 bk
              go_simp
              exact HK _ _ (.inl (PRE.out 1 _ _ (by decide) (ext_refl _) rfl))
            · refine wpOp_slotsK (k := 2) rfl (by decide) qsz (fun b' K' b0 bk HK => ?_)
              have p1 := (b0 1 (by decide)).trans q1
              have p3 := (b0 3 (by decide)).trans q3
              have p4 := (b0 4 (by decide)).trans q4
              clear b0 bk
              go_simp
              exact HK _ _ (.inl (PRE.out 2 _ _ (by decide) (ext_refl _) rfl))
            · have e2 : vs 2 = .pointer (some ⟨w.heap.size, 0, none⟩) := HG.out 2 (by cases ho; exact hdep ⟨2, .data⟩ (by simp) rfl)
              refine wpOp_slotsK (k := 3) rfl (by decide) qsz (fun b' K' b0 bk HK => ?_)
              have p1 := (b0 1 (by decide)).trans q1
              have p3 := (b0 3 (by decide)).trans q3
              have p4 := (b0 4 (by decide)).trans q4
              have k2 := (bk 2 (by decide)).trans e2
              clear b0 bk
              go_simp
              exact HK _ _ (.inl (PRE.out 3 _ _ (by decide) (ext_refl _) rfl))
            · have e3 : vs 3 = .pointer (some ⟨w.heap.size, 2, none⟩) := HG.out 3 (by cases ho; exact hdep ⟨3, .data⟩ (by simp) rfl)
              refine wpOp_slotsK (k := 4) rfl (by decide) qsz (fun b' K' b0 bk HK => ?_)
              have p1 := (b0 1 (by decide)).trans q1
              have p3 := (b0 3 (by decide)).trans q3
              have p4 := (b0 4 (by decide)).trans q4
              have k3 := (bk 3 (by decide)).trans e3
              clear b0 bk
              go_simp
              exact HK _ _ (.inl (PRE.out 4 _ _ (by decide) (ext_refl _) rfl))
            · refine wpOp_slotsK (k := 5) rfl (by decide) qsz (fun b' K' b0 bk HK => ?_)
              have p1 := (b0 1 (by decide)).trans q1
              have p3 := (b0 3 (by decide)).trans q3
              have p4 := (b0 4 (by decide)).trans q4
              clear b0 bk
              go_simp
              exact HK _ _ (.inl (PRE.out 5 _ _ (by decide) (ext_refl _) rfl))
            · have hjn : (j : Int) < (n : Int) := by omega
              have e4 : vs 4 = .slice (some ⟨b, o, none⟩) n c := HG.out 4 (by cases ho; exact hdep ⟨4, .data⟩ (by simp) rfl)
              have e5 : vs 5 = .int .i64 j := HG.out 5 (by cases ho; exact hdep ⟨5, .data⟩ (by simp) rfl)
              refine wpOp_slotsK (k := 6) rfl (by decide) qsz (fun b' K' b0 bk HK => ?_)
              have p1 := (b0 1 (by decide)).trans q1
              have p3 := (b0 3 (by decide)).trans q3
              have p4 := (b0 4 (by decide)).trans q4
              have k4 := (bk 4 (by decide)).trans e4
              have k5 := (bk 5 (by decide)).trans e5
              clear b0 bk
              go_simp
              exact HK _ _ (.inl (PRE.out 6 _ _ (by decide) (ext_refl _) rfl))
            · have e6 : vs 6 = .pointer (some ⟨b, o + j * 2, none⟩) := HG.out 6 (by cases ho; exact hdep ⟨6, .data⟩ (by simp) rfl)
              refine wpOp_slotsK (k := 7) rfl (by decide) qsz (fun b' K' b0 bk HK => ?_)
              have p1 := (b0 1 (by decide)).trans q1
              have p3 := (b0 3 (by decide)).trans q3
              have p4 := (b0 4 (by decide)).trans q4
              have k6 := (bk 6 (by decide)).trans e6
              clear b0 bk
              go_simp
              exact HK _ _ (.inl (PRE.out 7 _ _ (by decide) (ext_refl _) rfl))
            · have e7 : vs 7 = r.val := HG.out 7 (by cases ho; exact hdep ⟨7, .data⟩ (by simp) rfl)
              refine wpOp_slotsK (k := 8) rfl (by decide) qsz (fun b' K' b0 bk HK => ?_)
              have p1 := (b0 1 (by decide)).trans q1
              have p3 := (b0 3 (by decide)).trans q3
              have p4 := (b0 4 (by decide)).trans q4
              have k7 := (bk 7 (by decide)).trans e7
              clear b0 bk
              go_simp
              refine (l2Value_any r _ hsm.out).mono ?_
              rintro e w' ⟨rfl, hb'⟩
              go_simp
              exact HK _ _ (.inl (PRE.out 8 _ _ (by decide) hb' rfl))
            · have e8 : vs 8 = .int .i64 (dv r) := HG.out 8 (by cases ho; exact hdep ⟨8, .data⟩ (by simp) rfl)
              refine wpOp_slotsK (k := 9) rfl (by decide) qsz (fun b' K' b0 bk HK => ?_)
              have p1 := (b0 1 (by decide)).trans q1
              have p3 := (b0 3 (by decide)).trans q3
              have p4 := (b0 4 (by decide)).trans q4
              have k8 := (bk 8 (by decide)).trans e8
              clear b0 bk
              go_simp
              exact HK _ _ (.inl (PRE.out 9 _ _ (by decide) (ext_alloc (ext_refl _) _) ⟨wx.heap.size, rfl, HB.out.size, Blk.born _ _ _ rfl⟩))
            · have e1 : vs 1 = .slice (some ⟨i, 0, none⟩) j ic := HG.out 1 (by cases ho; exact hdep ⟨1, .data⟩ (by simp) rfl)
              obtain ⟨x, e9, hxs, hbx⟩ : ∃ x, vs 9 = .slice (some ⟨x, 0, none⟩) 1 1 ∧ W.heap.size ≤ x ∧ Blk wx x 3 #[.int .i64 (dv r)] := HG.out 9 (by cases ho; exact hdep ⟨9, .data⟩ (by simp) rfl)
              have hox := Lib.hid (own_ext HIW.out HB.out)
              have hrx := Lib.hid (own_ext HRW.out HB.out)
              have hcx := Lib.hid (own_ext HCW.out HB.out)
              have HBX := Lib.hid hbx
              have hg6W : g6 < W.heap.size := (HCW.out.lt _ rfl).2
              refine wpOp_slotsK (k := 10) rfl (by decide) qsz (fun b' K' b0 bk HK => ?_)
              refine step_append_lies _ (by rfl) (.tmp 29) (.tmp 37) 40 (by rfl) w.heap.size 3 i0 _ 1 8 Try.underlying40 hi hz0 hz1 hz2 rfl (by decide) (.slice (some ⟨i, 0, none⟩) j ic) j (intsV ((dsOf l).take j)) ?_ hox.out ⟨x, 0, none⟩ 1 1 [.int .i64 (dv r)] ?_ (by rfl) (World.news_of_block HBX.out) (by simp [Value.oneCell']) (by decide) m1 m2 (Nat.le_trans sW HB.out.size) _ rfl ?_
              · show b'.tmps.getD 29 undef = _
                rw [Array.getD_eq_getD_getElem?]
                exact (bk 1 (by decide)).trans e1
              · show b'.tmps.getD 37 undef = _
                rw [Array.getD_eq_getD_getElem?]
                exact (bk 9 (by decide)).trans e9
              intro g7 cap7 w7 hown7 hgrow7 hat7 hlt7
              have hne7 : g6 ≠ g7 := by
               rcases hat7 with h9 | h9
               · have h9 : some i = some g7 := h9
                 injection h9 with h9
                 rw [← h9]; exact hg6
               · have := HB.out.size; omega
              refine HK _ _ (.inr (.inl ⟨lst_set.2 (.inl ⟨rfl, hil⟩), ?_, ?_, g7, cap7, upd_same _ _ _, hne7, ?_, ?_, ?_, ?_, ?_, ?_, ?_⟩))
              · intro h
                rcases lst_set.1 h with ⟨h, _⟩ | h
                · omega
                · exact n10 (C12.out h).1
              · intro h
                rcases lst_set.1 h with ⟨h, _⟩ | h
                · omega
                · exact absurd (C11.out h) n10
              · exact Blk.grownF (BNW.out.ext HB.out) hgrow7 hiN.out
              · exact hrx.out.kept hgrow7 (own_neT hrx.out hox.out (by decide))
              · exact hcx.out.kept hgrow7 (.inr (by intro e; injection e with e; exact hg6 e))
              · rw [hdr.out]; simpa [intsV] using hown7
              · exact below_grown' hox.out (Nat.le_refl _) (ext_trans hbW.out HB.out) hgrow7
              · exact Blk.grownF (BMW.out.ext HB.out) hgrow7 hiM.out
              · exact Blk.grownF (BRW.out.ext HB.out) hgrow7 hiR.out
            · exact absurd (by cases ho; exact hdep ⟨10, .phase⟩ (by simp) rfl) n10
            · exact absurd (by cases ho; exact hdep ⟨10, .data⟩ (by simp) rfl) n10
          · have hbig : 11 ≤ q := by
             rcases Nat.lt_or_ge q 10 with h | h
             · exact absurd (C10.out h10 q h) hni
             · rcases Nat.lt_or_ge q 11 with h' | h'
               · exact absurd h10 (by rw [show (10 : Nat) = q by omega]; exact hni)
               · exact h'
            rcases (show q = 11 ∨ q = 12 by omega) with rfl | rfl
            · refine wpOp_slotsK (k := 11) rfl (by decide) qsz (fun b' K' b0 bk HK => ?_)
              have p3 := (b0 3 (by decide)).trans q3
              clear b0 bk
              go_simp
              refine HK _ _ (.inr (.inl ⟨lst_set.2 (.inr h10), ?_, fun _ => upd_same _ _ _, g7, cap7, ?_, hne7, hBN, hHR, hHC, hHI, hBB, hBM, hBR⟩))
              · intro h
                rcases lst_set.1 h with ⟨h, _⟩ | h
                · omega
                · exact n12 h
              · rw [upd_ne _ _ (by decide)]; exact e10
            · have e11 := h11 (by cases ho; exact hdep ⟨11, .data⟩ (by simp) rfl)
              have sNx := hBN.lt
              obtain ⟨x0, x1, x2, x3, x4, x5, x6⟩ := hBN.q7
              obtain ⟨y0, y1, y2, y3, y4, y5, y6⟩ := hBN.z7
              have n1 := Lib.hid (own_nbT hHR hBN (by decide))
              have n2 := Lib.hid (own_nbT hHC hBN (by decide))
              have n3 := Lib.hid (own_nbT hHI hBN (by decide))
              have BNH := Lib.hid hBN
              have M1 := Lib.hid hHR
              have M2 := Lib.hid hHC
              have M3 := Lib.hid hHI
              have M4 := Lib.hid hBB
              have M5 := Lib.hid hBM
              have M6 := Lib.hid hBR
              clear hBN hHR hHC hHI hBB hBM hBR
              refine wpOp_last rfl qsz (fun b' K' b0 bk HK => ?_)
              have k38 := (bk 10 (by decide)).trans e10
              have k39 := (bk 11 (by decide)).trans e11
              clear b0 bk
              go_simp
              exact HK _ (.inr (.inr ⟨lst_set.2 (.inl ⟨rfl, hil⟩), g7, cap7, hne7, BNH.out.set_ 4 _, own_setF (p := ⟨N, 4, none⟩) M1.out n1.out _, own_setF (p := ⟨N, 4, none⟩) M2.out n2.out _, own_setF (p := ⟨N, 4, none⟩) M3.out n3.out _, M4.out.setCell (p := ⟨N, 4, none⟩) (by show w.heap.size ≤ N; omega) _, M5.out.setF (p := ⟨N, 4, none⟩) hNM _, M6.out.setF (p := ⟨N, 4, none⟩) hNR _⟩))
          · rcases Nat.lt_or_ge q 10 with h | h
            · exact absurd (C10.out (C12.out h12).1 q h) hni
            · rcases (show q = 10 ∨ q = 11 ∨ q = 12 by omega) with rfl | rfl | rfl
              · exact absurd (C12.out h12).1 hni
              · exact absurd (C12.out h12).2 hni
              · exact absurd h12 hni
        · intro listed vs wx hJ hall
          rcases hJ with ⟨n10, _⟩ | ⟨_, n12, _⟩ | ⟨_, g7, cap7, hne7, hBN, hHR, hHC, hHI, hBB, hBM, hBR⟩
          · exact absurd (hall 10 (by decide)) n10
          · exact absurd (hall 12 (by decide)) n12
          · have BNH := Lib.hid hBN
            have M1 := Lib.hid hHR
            have M2 := Lib.hid hHC
            have M3 := Lib.hid hHI
            have M4 := Lib.hid hBB
            have M5 := Lib.hid hBM
            have M6 := Lib.hid hBR
            clear hBN hHR hHC hHI hBB hBM hBR hall
            simp only [slots]
            go_wp2
            go_roundw
            case rel => exact ⟨j + 1, g6, cap6, g7, cap7, by omega, by go_num, hne7, BNH, M1, M2, M3, M4, M5, M6⟩
            case measure => simp [intOf]; omega
      · obtain rfl : j = n := by omega
        have hall := Lib.hid (show (dsOf l).take j = dsOf l from List.take_of_length_le (by rw [HDS.out]; exact Nat.le_refl _))
        obtain ⟨r0, r1, r2, r3, r4, r5, r6⟩ := BRr.out.q7
        obtain ⟨y0, y1, y2, y3, y4, y5, y6⟩ := BRr.out.z7
        have sR := BRr.out.lt
        go_wp2
        refine bodyPost_ret (v := mdV u lo (some ⟨h, 0, none⟩) j cr (some ⟨g, 0, none⟩) j kc (some ⟨i, 0, none⟩) j ic be gu) (by simp [results, Try.results139, go_sem, *]) rfl ?_
        exact ⟨h, cr, g, kc, i, ic, rfl, m7_own HRr.out (own_nbT HRr.out BRr.out (by decide)), m7_own HCr.out (own_nbT HCr.out BRr.out (by decide)), m7_own (by rw [← hall.out]; exact HIr.out) (own_nbT HIr.out BRr.out (by decide)), hne, m7_below hbr.out (Nat.le_succ _)⟩
end Go.Proofs.Ytlkfffohjeoooaa
