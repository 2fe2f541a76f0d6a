/- recorded: a recording that is near a right list is drawn. -/
import Derived.Deep.CutBlock
import Derived.Test.YtphhelmcaehclaaVMvF
import Derived.Test.YtphhelmcaehclaaVWsP
namespace Go.Proofs.Ytphhelmcaehclaa
open Go.RowKit
set_option linter.unusedVariables false
set_option linter.unusedSimpArgs false
theorem own_cap {w : World} {B e size h n c : Nat} {xs : List Value} (hr : w.ownsRow B e size (.slice (some ⟨h, 0, none⟩) n c) n xs) : n ≤ c := by
 rcases hr.2 with ⟨h0, _⟩ | ⟨g', cap, cur, hv, _, _, _, hh, _⟩
 · cases h0
 · injection hv with _ _ hv
   omega
theorem own_sub {w : World} {B e size h n c o : Nat} {xs ys : List Value} (hr : w.ownsRow B e size (.slice (some ⟨h, 0, none⟩) n c) n xs) (hs : ∀ j u, ys[j]? = some u → xs[o + j]? = some u) : ∀ ad, (some ⟨h, o, none⟩ : Option Addr) = some ad → ∀ j u, ys[j]? = some u → w.cell? (ad.add j) = some u := by
 intro ad e j u hu
 injection e with e
 subst e
 have := hr.cells rfl (o + j) u (hs j u hu)
 rw [add_flat, Nat.zero_add] at this
 rw [add_flat]
 exact this
theorem rows3_take {ms : List R3} {v j : Nat} {u : Value} (h : (rowsV3 (ms.take v))[j]? = some u) : (rowsV3 ms)[0 + j]? = some u := by
 have e : rowsV3 ms = rowsV3 (ms.take v) ++ rowsV3 (ms.drop v) := by rw [← rowsV3_app, List.take_append_drop]
 rw [e, Nat.zero_add, List.getElem?_append_left (List.getElem?_eq_some_iff.1 h).1]
 exact h
theorem rows3_drop {ms : List R3} {v j : Nat} {u : Value} (hv : v ≤ ms.length) (h : (rowsV3 (ms.drop v))[j]? = some u) : (rowsV3 ms)[v * 3 + j]? = some u := by
 have e : rowsV3 ms = rowsV3 (ms.take v) ++ rowsV3 (ms.drop v) := by rw [← rowsV3_app, List.take_append_drop]
 have hl : (rowsV3 (ms.take v)).length = v * 3 := by rw [rowsV_len3, List.length_take]; omega
 rw [e, List.getElem?_append_right (by omega), hl, Nat.add_sub_cancel_left]
 exact h
theorem own3 {w : World} {B h n c : Nat} {ms : List R3} {k : Nat} {r : R3} (hr : w.ownsRow B 75 3 (.slice (some ⟨h, 0, none⟩) n c) n (rowsV3 ms)) (hx : ms[k]? = some r) : w.cell? ⟨h, k * 3, none⟩ = some (.int .i64 r.a) ∧ w.cell? ⟨h, k * 3 + 1, none⟩ = some (.int .i64 r.b) ∧ w.cell? ⟨h, k * 3 + 2, none⟩ = some (.int .i64 r.c) := by
 obtain ⟨b, o, e, _, h0, h1, h2⟩ := rows_at3 (Reads.of_own hr) hx
 injection e with e
 injection e with e1 e2
 subst e1 e2
 rw [Nat.zero_add] at h0 h1 h2
 exact ⟨h0, h1, h2⟩
theorem Blk.dr1 {w : World} {g : Nat} {t : TypeId} {cs : Array Value} (h : Blk w g t cs) : Blk w.drew g t cs := h
theorem rowsV3_set : ∀ (l : List R3) (i : Nat) (r : R3), i < l.length → rowsV3 (l.set i r) = (((rowsV3 l).set (i * 3) (.int .i64 r.a)).set (i * 3 + 1) (.int .i64 r.b)).set (i * 3 + 2) (.int .i64 r.c) := by
 intro l
 induction l with
 | nil => intro i r h; simp at h
 | cons x l ih =>
   intro i r h
   rcases i with _ | i
   · simp [rowsV3, R3.cells]
   · have := ih i r (by simpa using h)
     have e : ∀ y : R3, ∀ m : List R3, rowsV3 (y :: m) = R3.cells y ++ rowsV3 m := fun y m => by simp [rowsV3]
     rw [List.set_cons_succ, e, e, this]
     have hl : (R3.cells x).length = 3 := rfl
     rw [List.set_append_right _ _ (by rw [hl]; omega), List.set_append_right _ _ (by rw [hl]; omega), List.set_append_right _ _ (by rw [hl]; omega), hl, show (i + 1) * 3 - 3 = i * 3 by omega, show (i + 1) * 3 + 1 - 3 = i * 3 + 1 by omega, show (i + 1) * 3 + 2 - 3 = i * 3 + 2 by omega]
theorem own3_set {w : World} {B h n c k : Nat} {ms : List R3} (hr : w.ownsRow B 75 3 (.slice (some ⟨h, 0, none⟩) n c) n (rowsV3 ms)) (hk : k < ms.length) (x y z : Int) : (((w.setCell ⟨h, k * 3, none⟩ (.int .i64 x)).setCell ⟨h, k * 3 + 1, none⟩ (.int .i64 y)).setCell ⟨h, k * 3 + 2, none⟩ (.int .i64 z)).ownsRow B 75 3 (.slice (some ⟨h, 0, none⟩) n c) n (rowsV3 (ms.set k ⟨x, y, z⟩)) := by
 rw [rowsV3_set _ _ _ hk]
 exact (((hr.stored (k * 3) (.int .i64 x)).1.stored (k * 3 + 1) (.int .i64 y)).1.stored (k * 3 + 2) (.int .i64 z)).1
section
variable {P : Program} {w : World} {ops : Array Oper} {rest : List Oper} {o : Oper} {a : Act} {Q : Exit → Act → World → Prop} {K : Act → World → Prop} {E : Prop}
/-- at a step of a region that draws its order: the source's cells are read -/
theorem step_appX (hgd : o.guard = none) (s x : Operand) (t : TypeId) (ho : o.op = .call { callee := .builtin .append, args := #[s, x], argTypes := #[t, t] })
 (base : Nat) (e : TypeId) (i : TypeInfo) (z : Value) (size bytes : Nat) (ht : P.underlying t = some (.slice e)) (hi : P.info? e = some i) (hz : i.zero = some z)
 (hsize : i.size = size) (hby : i.bytes = bytes) (hzs : z.cells.size = size) (hsz : 0 < size)
 (v : Value) (n : Nat) (xs : List Value) (hs : a.eval s = v) (hown : w.ownsRow base e size v n xs)
 (A : Option Addr) (m c : Nat) (ys : List Value) (hx : a.eval x = .slice A m c) (hl : ys.length = m * size) (hno : A = none → m = 0 ∧ c = 0) (hnews : ∀ ad, A = some ad → ∀ j u, ys[j]? = some u → w.cell? (ad.add j) = some u) (h1 : ∀ u ∈ ys, u.oneCell' = true)
 (h63 : n + m ≤ maxLen) (hbytes : (n + m) * bytes ≤ 140737488355328) (hbase : base ≤ w.heap.size)
 (h : ∀ A' c' w', w'.ownsRow base e size (.slice A' (n + m) c') (n + m) (xs ++ ys) → w.grownBy w' v.ownBlock → K (a.put o.dst (.slice A' (n + m) c')) w') :
 if Region.wanted o (yielded ops a.tmps) = true then Oper.wp P o a w K Q else E := by
 rw [if_pos (by simp [Region.wanted, hgd])]
 exact wp_appO s x t ho base e i z size bytes ht hi hz hsize hby hzs hsz v n xs hs hown A m c ys hx hl hno hnews h1 h63 hbytes hbase h
end
def RcD (S g : Nat) (LL p cb v : Nat) (xa xb : Int) (ms : List R3) (vs : Nat → Value) (wx : World) : Nat → Prop
 | 0 => vs 64 = .slice (some ⟨LL, 0, none⟩) p cb
 | 1 => vs 65 = .int .i64 (v : Int)
 | 2 => vs 66 = .slice (some ⟨LL, 0, none⟩) p cb
 | 3 => vs 67 = .int .i64 (v : Int)
 | 4 => vs 68 = .pointer (some ⟨LL, v * 3, none⟩)
 | 5 => vs 69 = .pointer (some ⟨LL, v * 3, none⟩)
 | 6 => vs 70 = .int .i64 xa
 | 7 => vs 71 = .slice (some ⟨LL, 0, none⟩) p cb
 | 8 => vs 72 = .int .i64 (v : Int)
 | 9 => vs 73 = .pointer (some ⟨LL, v * 3, none⟩)
 | 10 => vs 74 = .pointer (some ⟨LL, v * 3 + 1, none⟩)
 | 11 => vs 75 = .int .i64 xb
 | 12 => vs 76 = .pointer (some ⟨g, 0, none⟩)
 | 13 => ∃ (x : Nat), vs 77 = .slice (some ⟨x, 0, none⟩) 3 3 ∧ (S ≤ x) ∧ (Blk wx x 3 #[.int .i64 1, .int .i64 (-1), .int .i64 2])
 | 14 => ∃ (z : Int), vs 78 = .int .i64 z ∧ (-1 ≤ z) ∧ (z ≤ 2)
 | 15 => ∃ (z : Int), vs 79 = .agg #[.int .i64 xa, .int .i64 xb, .int .i64 z]
 | 16 => vs 80 = .pointer (some ⟨LL, v * 3, none⟩)
 | 17 => ∃ (z : Int), (wx.ownsRow S 75 3 (.slice (some ⟨LL, 0, none⟩) p cb) p (rowsV3 (ms.set v ⟨xa, xb, z⟩)))
 | _ => True
def RcDU : Nat → List Nat
 | 0 => [64]
 | 1 => [65]
 | 2 => [66]
 | 3 => [67]
 | 4 => [68]
 | 5 => [69]
 | 6 => [70]
 | 7 => [71]
 | 8 => [72]
 | 9 => [73]
 | 10 => [74]
 | 11 => [75]
 | 12 => [76]
 | 13 => [77]
 | 14 => [78]
 | 15 => [79]
 | 16 => [80]
 | 17 => []
 | _ => []
def RcDR (g : Nat) (LL p cb v : Nat) (xa xb : Int) (ms : List R3) (i : Nat) (wx wy : World) : Prop := if i = 17 then KeepW 75 wx wy else Gr g wx wy
theorem RcD_gr {S g : Nat} {LL p cb v : Nat} {xa xb : Int} {ms : List R3} (hgS : g < S) {vs us : Nat → Value} {wx wy : World} {jN : Nat} (hGG : RcD S g LL p cb v xa xb ms vs wx jN) (haG : ∀ d ∈ RcDU jN, us d = vs d) (hbG : Gr g wx wy) : RcD S g LL p cb v xa xb ms us wy jN := by
 match jN, hGG, haG with
 | 0, hGG, haG =>
   exact (haG 64 (by simp [RcDU])).trans hGG
 | 1, hGG, haG =>
   exact (haG 65 (by simp [RcDU])).trans hGG
 | 2, hGG, haG =>
   exact (haG 66 (by simp [RcDU])).trans hGG
 | 3, hGG, haG =>
   exact (haG 67 (by simp [RcDU])).trans hGG
 | 4, hGG, haG =>
   exact (haG 68 (by simp [RcDU])).trans hGG
 | 5, hGG, haG =>
   exact (haG 69 (by simp [RcDU])).trans hGG
 | 6, hGG, haG =>
   exact (haG 70 (by simp [RcDU])).trans hGG
 | 7, hGG, haG =>
   exact (haG 71 (by simp [RcDU])).trans hGG
 | 8, hGG, haG =>
   exact (haG 72 (by simp [RcDU])).trans hGG
 | 9, hGG, haG =>
   exact (haG 73 (by simp [RcDU])).trans hGG
 | 10, hGG, haG =>
   exact (haG 74 (by simp [RcDU])).trans hGG
 | 11, hGG, haG =>
   exact (haG 75 (by simp [RcDU])).trans hGG
 | 12, hGG, haG =>
   exact (haG 76 (by simp [RcDU])).trans hGG
 | 13, hGG, haG =>
   obtain ⟨xG0, eG, fG0, fG1⟩ := hGG
   exact ⟨xG0, (haG 77 (by simp [RcDU])).trans eG, fG0, fG1.gr hbG (by omega)⟩
 | 14, hGG, haG =>
   obtain ⟨xG0, eG, fG0, fG1⟩ := hGG
   exact ⟨xG0, (haG 78 (by simp [RcDU])).trans eG, fG0, fG1⟩
 | 15, hGG, haG =>
   obtain ⟨xG0, eG⟩ := hGG
   exact ⟨xG0, (haG 79 (by simp [RcDU])).trans eG⟩
 | 16, hGG, haG =>
   exact (haG 80 (by simp [RcDU])).trans hGG
 | 17, hGG, haG =>
   obtain ⟨xG0, fG0⟩ := hGG
   exact ⟨xG0, own_gr fG0 hbG hgS⟩
 | jN + 18, _, _ => trivial
theorem RcD_17 {S g : Nat} {LL p cb v : Nat} {xa xb : Int} {ms : List R3} (hgS : g < S) {vs us : Nat → Value} {wx wy : World} {jN : Nat} (hneG : jN ≠ 17) (hGG : RcD S g LL p cb v xa xb ms vs wx jN) (haG : ∀ d ∈ RcDU jN, us d = vs d) (hbG : KeepW 75 wx wy) : RcD S g LL p cb v xa xb ms us wy jN := by
 match jN, hGG, haG, hneG with
 | 0, hGG, haG, hneG =>
   exact (haG 64 (by simp [RcDU])).trans hGG
 | 1, hGG, haG, hneG =>
   exact (haG 65 (by simp [RcDU])).trans hGG
 | 2, hGG, haG, hneG =>
   exact (haG 66 (by simp [RcDU])).trans hGG
 | 3, hGG, haG, hneG =>
   exact (haG 67 (by simp [RcDU])).trans hGG
 | 4, hGG, haG, hneG =>
   exact (haG 68 (by simp [RcDU])).trans hGG
 | 5, hGG, haG, hneG =>
   exact (haG 69 (by simp [RcDU])).trans hGG
 | 6, hGG, haG, hneG =>
   exact (haG 70 (by simp [RcDU])).trans hGG
 | 7, hGG, haG, hneG =>
   exact (haG 71 (by simp [RcDU])).trans hGG
 | 8, hGG, haG, hneG =>
   exact (haG 72 (by simp [RcDU])).trans hGG
 | 9, hGG, haG, hneG =>
   exact (haG 73 (by simp [RcDU])).trans hGG
 | 10, hGG, haG, hneG =>
   exact (haG 74 (by simp [RcDU])).trans hGG
 | 11, hGG, haG, hneG =>
   exact (haG 75 (by simp [RcDU])).trans hGG
 | 12, hGG, haG, hneG =>
   exact (haG 76 (by simp [RcDU])).trans hGG
 | 13, hGG, haG, hneG =>
   obtain ⟨xG0, eG, fG0, fG1⟩ := hGG
   exact ⟨xG0, (haG 77 (by simp [RcDU])).trans eG, fG0, hbG.2.1 _ _ _ fG1 (by decide)⟩
 | 14, hGG, haG, hneG =>
   obtain ⟨xG0, eG, fG0, fG1⟩ := hGG
   exact ⟨xG0, (haG 78 (by simp [RcDU])).trans eG, fG0, fG1⟩
 | 15, hGG, haG, hneG =>
   obtain ⟨xG0, eG⟩ := hGG
   exact ⟨xG0, (haG 79 (by simp [RcDU])).trans eG⟩
 | 16, hGG, haG, hneG =>
   exact (haG 80 (by simp [RcDU])).trans hGG
 | 17, hGG, haG, hneG =>
   exact absurd rfl hneG
 | jN + 18, _, _, _ => trivial
def RcDP (j i : Nat) : Bool := false
theorem RcD_keep {S g : Nat} {LL p cb v : Nat} {xa xb : Int} {ms : List R3} (hgS : g < S) {vs us : Nat → Value} {wx wy : World} {iN jN : Nat} (hneG : iN ≠ jN) (hdpG : RcDP jN iN = false) (hGG : RcD S g LL p cb v xa xb ms vs wx jN) (haG : ∀ d ∈ RcDU jN, us d = vs d) (hbG : RcDR g LL p cb v xa xb ms iN wx wy) : RcD S g LL p cb v xa xb ms us wy jN := by
 unfold RcDR at hbG
 by_cases h17 : iN = 17
 · rw [if_pos h17] at hbG
   exact RcD_17 hgS (by omega) hGG haG hbG
 rw [if_neg h17] at hbG
 exact RcD_gr hgS hGG haG hbG
def DrawRec (g a K : Nat) (w : World) (e : Ending) (w' : World) : Prop := ∃ (ms : List R3) (B : Option Addr) (cb a' : Nat), e = .returned (.slice B ms.length cb) ∧ ms.length ≤ 64 ∧ w'.ownsRow w.heap.size 75 3 (.slice B ms.length cb) ms.length (rowsV3 ms) ∧ a' ≤ a + K ∧ CurAt w' g a' ∧ Gr g w w'
set_option maxRecDepth 100000 in
set_option maxHeartbeats 16000000 in
theorem recorded_any (g a S : Nat) (B0 : Option Addr) (cb0 : Nat) (b : List R3) (w : World) (h : CurAt w g a) (ha : a ≤ 400000000000) (hgS : g < S) (hr : w.ownsRow S 75 3 (.slice B0 b.length cb0) b.length (rowsV3 b)) (hb61 : b.length ≤ 61) :
 Calls Try.prog 45 #[.pointer (some ⟨g, 0, none⟩), .slice B0 b.length cb0] w (DrawRec g a 700 w) := by
 obtain ⟨i0, hi, hz0, hz1, hz2⟩ := info_parts info_mv
 have hgw : g < w.heap.size := h.lt
 obtain ⟨p, hp⟩ : ∃ o9, b.length = o9 := ⟨_, rfl⟩
 rw [hp] at hr hb61 ⊢
 have HL := Lib.hid hp
 have HR := Lib.hid hr
 have HC := Lib.hid h
 have m1 : 0 + p ≤ maxLen := by unfold maxLen; omega
 have m2 : (0 + p) * 24 ≤ 140737488355328 := by omega
 clear h hr hp
 go_enter Try.func45, Try.ntmps45
 go_wp2_with (at_builtin; refine wpList_appO rfl (.tmp 10) (.tmp 11) 27 rfl w.heap.size 75 i0 _ 3 24 Try.underlying27 hi hz0 hz1 hz2 rfl (by decide) (.slice (some ⟨w.heap.size, 0, none⟩) 0 0) 0 [] rfl (own_lit_at w 75 3 rfl (Nat.le_refl _)) B0 p cb0 (rowsV3 b) rfl S (HR.out.alloc _) (rows3_one _) m1 m2 (by simp) ?_; intro B cb w0 hown hgrow; have HGR := Lib.hid hgrow; have HOW := Lib.hid hown; clear hown hgrow; rw [Nat.zero_add, List.nil_append] at HOW; rw [Nat.zero_add])
 have hrow : ∀ b9, Value.ownBlock (.slice (some ⟨w.heap.size, 0, none⟩) 0 0) = some b9 → w.heap.size ≤ b9 := fun b9 e9 => by have h9 : some w.heap.size = some b9 := e9; injection h9 with h9; omega
 have HC0 := Lib.hid ((HC.out.ext (ext_alloc (ext_refl _) (.cells #[] 75))).grown HGR.out (fun b9 e9 => Nat.lt_of_lt_of_le hgw (hrow b9 e9)))
 have HG0 := Lib.hid ((Gr.alloc g w (.cells #[] 75)).grown HGR.out hrow)
 clear HGR hrow HC HR m1 m2
 go_wp2_with fail
 refine (pick_any g a 3 _ HC0.out (by omega) (by omega) (by omega)).mono ?_
 rintro e w1 ⟨kz, a1, rfl, kz0, kz1, ha1, hc, hg⟩
 obtain ⟨k, rfl⟩ := Int.eq_ofNat_of_zero_le kz0
 have HC1 := Lib.hid hc
 have HG1 := Lib.hid (HG0.out.trans hg)
 have HO1 := Lib.hid (own_gr HOW.out hg hgw)
 clear hc hg HC0 HG0 HOW
 go_wp2_with fail
 go_loopw [5, 6] (fun ov kv wr => ∃ (k p cb a1 : Nat) (B : Option Addr) (ms : List R3), ov = .slice B p cb ∧ kv = .int .i64 (k : Int) ∧ k + p ≤ 63 ∧ k ≤ 2 ∧ Hid (ms.length = p) ∧ a1 + 90 * k ≤ a + 290 ∧ Hid (CurAt wr g a1) ∧ Hid (Gr g w wr) ∧ Hid (wr.ownsRow w.heap.size 75 3 (.slice B p cb) p (rowsV3 ms))) (fun _ kv _ => (intOf kv).toNat)
 case atStart => exact ⟨k, p, cb, a1, _, b, rfl, rfl, by omega, by omega, HL, by omega, HC1, HG1, HO1⟩
 case round =>
  clear HC1 HG1 HO1 ha1 kz0 kz1 HL hb61
  obtain ⟨k, p, cb, a1, B, ms, rfl, rfl, hkp, hk2, HL, ha1, HC1, HG1, HO1⟩ := hrel
  obtain ⟨V, hV⟩ : ∃ V : World, V = wr := ⟨_, rfl⟩
  subst hV
  by_cases hk : 0 < k
  · have hk1 : (0 : Int) < (k : Int) := by omega
    by_cases hp : 0 < p
    · have hp1 : (0 : Int) < (p : Int) := by omega
      go_wp2_with fail
      refine (pick_any g a1 p _ HC1.out (by omega) (by omega) (by omega)).mono ?_
      rintro e w2 ⟨vz, a2, rfl, v0, v1, ha2, hc, hg⟩
      obtain ⟨v, rfl⟩ := Int.eq_ofNat_of_zero_le v0
      have HC2 := Lib.hid hc
      have HG2 := Lib.hid (HG1.out.trans hg)
      have HO2 := Lib.hid (own_gr HO1.out hg hgw)
      clear hc hg HC1 HG1 HO1
      go_wp2_with fail
      refine (pick_any g a2 4 _ HC2.out (by omega) (by omega) (by omega)).mono ?_
      rintro e w3 ⟨s, a3, rfl, s0, s1, ha3, hc, hg⟩
      have HC3 := Lib.hid hc
      have HG3 := Lib.hid (HG2.out.trans hg)
      have HO3 := Lib.hid (own_gr HO2.out hg hgw)
      clear hc hg HC2 HG2 HO2
      have hv : v < p := by omega
      have hvp : (v : Int) < (p : Int) := by omega
      have hbV := HG3.out.size
      have kpn : ((k - 1 : Nat) : Int) = (k : Int) - 1 := by omega
      have hkz : IntKind.i64.wrap ((k : Int) - 1) = (k : Int) - 1 := by rw [IntKind.wrap_i64]; omega
      have hvz : IntKind.i64.wrap ((v : Int) + 1) = (v : Int) + 1 := by rw [IntKind.wrap_i64]; omega
      obtain ⟨LL, c', hB, hLw, hLl⟩ := HO3.out.form hp
      injection hB with hB _ hB2
      subst hB hB2
      rcases (show s = 0 ∨ s = 1 ∨ s = 2 ∨ s = 3 by omega) with rfl | rfl | rfl | rfl
      · have hs1 : (v : Int) + 1 ≤ (p : Int) := by omega
        have hs0 : (0 : Int) ≤ (v : Int) := by omega
        have hs9 : (0 : Int) ≤ (v : Int) + 1 := by omega
        have hpc := own_cap HO3.out
        have hvc : v ≤ cb := by omega
        have hvc1 : v + 1 ≤ cb := by omega
        have hvc2 : v + 1 ≤ p := by omega
        have m1 : 0 + v ≤ maxLen := by unfold maxLen; omega
        have m2 : (0 + v) * 24 ≤ 140737488355328 := by omega
        have hn1 : (rowsV3 (ms.take v)).length = v * 3 := by rw [rowsV_len3, List.length_take, HL.out]; omega
        have hvv : (v : Int) ≤ (v : Int) + 1 := by omega
        by_cases hce : cb = v + 1
        · obtain rfl := hce
          have m3 : v + 0 ≤ maxLen := by unfold maxLen; omega
          have m4 : (v + 0) * 24 ≤ 140737488355328 := by omega
          have hn2 : (rowsV3 ([] : List R3)).length = 0 * 3 := rfl
          go_upto_region 12 with fail
          have x1 := World.ownsRow.drew (own_lit_at w3 75 3 rfl hbV)
          have x2 := own_sub (World.ownsRow.drew (HO3.out.alloc (.cells #[] 75))) (o := 0) (ys := rowsV3 (ms.take v)) (fun j u h => rows3_take h)
          have x3 : w.heap.size ≤ (w3.alloc (.cells #[] 75)).drew.heap.size := Nat.le_trans hbV (ext_alloc (ext_refl _) _).size
          have x4 : Below w3.heap.size w3 (w3.alloc (.cells #[] 75)).drew := ext_drew (ext_alloc (ext_refl w3) _)
          have x5 : ∀ b9, Value.ownBlock (.slice (some ⟨w3.heap.size, 0, none⟩) 0 0) = some b9 → w3.heap.size ≤ b9 := fun b9 e9 => by have h9 : some w3.heap.size = some b9 := e9; injection h9 with h9; omega
          go_region_law (first
           | (refine step_appX rfl (.tmp 52) (.tmp 55) 27 rfl w.heap.size 75 i0 _ 3 24 Try.underlying27 hi hz0 hz1 hz2 rfl (by decide) (.slice (some ⟨w3.heap.size, 0, none⟩) 0 0) 0 [] rfl x1 (some ⟨LL, 0, none⟩) v _ (rowsV3 (ms.take v)) rfl hn1 (fun e => by cases e) x2 (rows3_one _) m1 m2 x3 ?_; intro A4 c4 w4 hown4 hgrow4; rw [Nat.zero_add, List.nil_append] at hown4; have HO4 := Lib.hid hown4; have HG4 := Lib.hid hgrow4; clear hown4 hgrow4; have hb4 := Lib.hid (x4.grown HG4.out x4.size x5))
           | (refine step_appX rfl (.tmp 56) (.tmp 60) 27 rfl w.heap.size 75 i0 _ 3 24 Try.underlying27 hi hz0 hz1 hz2 rfl (by decide) (.slice A4 v c4) v (rowsV3 (ms.take v)) rfl HO4.out (some ⟨LL, 0, none⟩) 0 _ (rowsV3 ([] : List R3)) rfl hn2 (fun e => by cases e) (fun _ _ j u h => nomatch h) (rows3_one _) m3 m4 (Nat.le_trans hbV hb4.out.size) ?_; intro A5 c5 w5 hown5 hgrow5; have HO5 := Lib.hid hown5; have HG5 := Lib.hid hgrow5; clear hown5 hgrow5))
          all_goals
           have hr4 : ∀ b9, Value.ownBlock (.slice A4 v c4) = some b9 → w.heap.size ≤ b9 := fun b9 e9 => (HO4.out.lt _ e9).1
           have HC4 := Lib.hid (HC3.out.ext hb4.out)
           have HC5 := Lib.hid (HC4.out.grown HG5.out (fun b9 e9 => Nat.lt_of_lt_of_le hgw (hr4 b9 e9)))
           have HG6 := Lib.hid ((HG3.out.trans (Gr.of_ext hb4.out)).grown HG5.out hr4)
           have HO6 := Lib.hid (show w5.ownsRow w.heap.size 75 3 (.slice A5 (v + 0) c5) (v + 0) (rowsV3 (ms.take v ++ ([] : List R3))) by rw [rowsV3_app]; exact HO5.out)
           have hl6 : (ms.take v ++ ([] : List R3)).length = v + 0 := by rw [List.length_append, List.length_take, HL.out]; simp; omega
           clear HC3 HG3 HO3 HC4 HO4 HG4 hb4 HO5 HG5 hr4
           go_wp2
           go_roundw
           case rel => exact ⟨k - 1, v + 0, c5, a3, A5, ms.take v ++ ([] : List R3), rfl, by rw [kpn], by omega, by omega, Lib.hid hl6, by omega, HC5, HG6, HO6⟩
           case measure => simp [intOf] <;> omega
        · have m3 : v + (p - (v + 1)) ≤ maxLen := by unfold maxLen; omega
          have m4 : (v + (p - (v + 1))) * 24 ≤ 140737488355328 := by omega
          have hn2 : (rowsV3 (ms.drop (v + 1))).length = (p - (v + 1)) * 3 := by rw [rowsV_len3, List.length_drop, HL.out]
          go_upto_region 12 with fail
          have x1 := World.ownsRow.drew (own_lit_at w3 75 3 rfl hbV)
          have x2 := own_sub (World.ownsRow.drew (HO3.out.alloc (.cells #[] 75))) (o := 0) (ys := rowsV3 (ms.take v)) (fun j u h => rows3_take h)
          have x3 : w.heap.size ≤ (w3.alloc (.cells #[] 75)).drew.heap.size := Nat.le_trans hbV (ext_alloc (ext_refl _) _).size
          have x4 : Below w3.heap.size w3 (w3.alloc (.cells #[] 75)).drew := ext_drew (ext_alloc (ext_refl w3) _)
          have x7 : v + 1 ≤ ms.length := by rw [HL.out]; exact hvc2
          have x5 : ∀ b9, Value.ownBlock (.slice (some ⟨w3.heap.size, 0, none⟩) 0 0) = some b9 → w3.heap.size ≤ b9 := fun b9 e9 => by have h9 : some w3.heap.size = some b9 := e9; injection h9 with h9; omega
          go_region_law (first
           | (refine step_appX rfl (.tmp 52) (.tmp 55) 27 rfl w.heap.size 75 i0 _ 3 24 Try.underlying27 hi hz0 hz1 hz2 rfl (by decide) (.slice (some ⟨w3.heap.size, 0, none⟩) 0 0) 0 [] rfl x1 (some ⟨LL, 0, none⟩) v _ (rowsV3 (ms.take v)) rfl hn1 (fun e => by cases e) x2 (rows3_one _) m1 m2 x3 ?_; intro A4 c4 w4 hown4 hgrow4; rw [Nat.zero_add, List.nil_append] at hown4; have HO4 := Lib.hid hown4; have HG4 := Lib.hid hgrow4; clear hown4 hgrow4; have hb4 := Lib.hid (x4.grown HG4.out x4.size x5))
           | (refine step_appX rfl (.tmp 56) (.tmp 60) 27 rfl w.heap.size 75 i0 _ 3 24 Try.underlying27 hi hz0 hz1 hz2 rfl (by decide) (.slice A4 v c4) v (rowsV3 (ms.take v)) rfl HO4.out (some ⟨LL, (v + 1) * 3, none⟩) (p - (v + 1)) _ (rowsV3 (ms.drop (v + 1))) rfl hn2 (fun e => by cases e) (own_sub (own_ext HO3.out hb4.out) (fun j u h => rows3_drop x7 h)) (rows3_one _) m3 m4 (Nat.le_trans hbV hb4.out.size) ?_; intro A5 c5 w5 hown5 hgrow5; have HO5 := Lib.hid hown5; have HG5 := Lib.hid hgrow5; clear hown5 hgrow5))
          all_goals
           have hr4 : ∀ b9, Value.ownBlock (.slice A4 v c4) = some b9 → w.heap.size ≤ b9 := fun b9 e9 => (HO4.out.lt _ e9).1
           have HC4 := Lib.hid (HC3.out.ext hb4.out)
           have HC5 := Lib.hid (HC4.out.grown HG5.out (fun b9 e9 => Nat.lt_of_lt_of_le hgw (hr4 b9 e9)))
           have HG6 := Lib.hid ((HG3.out.trans (Gr.of_ext hb4.out)).grown HG5.out hr4)
           have HO6 := Lib.hid (show w5.ownsRow w.heap.size 75 3 (.slice A5 (v + (p - (v + 1))) c5) (v + (p - (v + 1))) (rowsV3 (ms.take v ++ (ms.drop (v + 1)))) by rw [rowsV3_app]; exact HO5.out)
           have hl6 : (ms.take v ++ (ms.drop (v + 1))).length = v + (p - (v + 1)) := by rw [List.length_append, List.length_take, HL.out]; rw [List.length_drop, HL.out]; omega
           clear HC3 HG3 HO3 HC4 HO4 HG4 hb4 HO5 HG5 hr4
           go_wp2
           go_roundw
           case rel => exact ⟨k - 1, v + (p - (v + 1)), c5, a3, A5, ms.take v ++ (ms.drop (v + 1)), rfl, by rw [kpn], by omega, by omega, Lib.hid hl6, by omega, HC5, HG6, HO6⟩
           case measure => simp [intOf] <;> omega
      · obtain ⟨x, hx⟩ := list_split (l := ms) (k := v) (by rw [HL.out]; exact hv)
        obtain ⟨xa, xb, xc⟩ := x
        have hgL : g < LL := by omega
        have hvl : v < ms.length := by rw [HL.out]; exact hv
        have HR5 := HO3
        clear hbV
        go_upto_region 14 with fail
        refine wp_region_m (by kernel_rfl) (by kernel_rfl) [64, 65, 66, 67, 68, 69, 70, 71, 72, 73, 74, 75, 76, 77, 78, 79, 80] RcDU (by kernel_rfl) (by decide) 107 (by kernel_rfl) (by simp) (fun ra0 => ra0.eval (.tmp 0) = .pointer (some ⟨g, 0, none⟩) ∧ ra0.eval (.tmp 5) = .slice (some ⟨LL, 0, none⟩) p cb ∧ ra0.eval (.tmp 7) = .int .i64 (v : Int)) ⟨by kernel_rfl, by kernel_rfl, by kernel_rfl⟩ RcDP (by kernel_rfl) (ICur 4 g a3 w w3 17 17 (fun wx => True)) (RcDR g LL p cb v xa xb ms) (fun jN vs wx => RcD w.heap.size g LL p cb v xa xb ms vs wx jN) ⟨a3, by omega, (HC3.out).ext (ext_drew (ext_refl _)), (HG3.out).trans (Gr.of_ext (ext_drew (ext_refl _))), Nat.le_refl _, fun _ => Gr.of_ext (ext_drew (ext_refl _)), fun _ => trivial⟩ (fun _ _ _ _ _ _ h0 hd h1 h2 h3 => RcD_keep hgw h0 hd h1 h2 h3) ?_ ?_
        · intro ra0 hE ri ro ho Qx vs wx rb KX kk rL hI hkk hnl hLt hcl hdep rb0 rbk HK
          repeat (rename_i hz9; clear hz9)
          obtain ⟨rq0, rq5, rq7⟩ := hE
          have hi : ri < 18 := by
           rcases Nat.lt_or_ge ri 18 with h | h
           · exact h
           · rw [Array.getElem?_eq_none (by simpa using h)] at ho; cases ho
          have hkk : kk < 18 := by simpa using hkk
          obtain ⟨ax, hax, hcx, hGw, hsz, hpre, hBx⟩ := hI
          have HQ : ∀ w' a2, CurAt w' g a2 → a2 ≤ ax + 4 → Gr g wx w' → ICur 4 g a3 w w3 17 17 (fun wx => True) (kk + 1) (fun j => j = ri ∨ rL j) w' := fun w' a2 h1 h2 h3 => ⟨a2, by omega, h1, hGw.trans h3, Nat.le_trans hsz h3.size, fun hn => (hpre (fun x => hn (.inr x))).trans h3, fun hn => (fun hB => trivial) (hBx (fun x => hn (.inr x)))⟩
          have HQX := Lib.hid HQ
          have HCX := Lib.hid hcx
          have HGW := Lib.hid hGw
          have HPRE := Lib.hid hpre
          have HBX := Lib.hid hBx
          have HCL := Lib.hid hcl
          clear HQ hcx hGw hpre hBx hcl
          rcases (show ri = 0 ∨ ri = 1 ∨ ri = 2 ∨ ri = 3 ∨ ri = 4 ∨ ri = 5 ∨ ri = 6 ∨ ri = 7 ∨ ri = 8 ∨ ri = 9 ∨ ri = 10 ∨ ri = 11 ∨ ri = 12 ∨ ri = 13 ∨ ri = 14 ∨ ri = 15 ∨ ri = 16 ∨ ri = 17 by omega) with rfl | rfl | rfl | rfl | rfl | rfl | rfl | rfl | rfl | rfl | rfl | rfl | rfl | rfl | rfl | rfl | rfl | rfl
          · simp only [List.getElem?_toArray, List.getElem?_cons_succ, List.getElem?_cons_zero, Option.some.injEq] at ho
            subst ho
            have HKX := Lib.hid HK
            clear HK
            have p5 := (rb0 5 (by decide)).trans rq5
            clear rb0 rbk hdep
            go_simp
            exact HKX.out _ _ (HQX.out _ ax HCX.out (by omega) (Gr.refl _ _)) (by unfold RcDR; rw [if_neg (by decide)]; exact Gr.refl _ _) (upd_same _ _ _)
          · simp only [List.getElem?_toArray, List.getElem?_cons_succ, List.getElem?_cons_zero, Option.some.injEq] at ho
            subst ho
            have HKX := Lib.hid HK
            clear HK
            have p7 := (rb0 7 (by decide)).trans rq7
            clear rb0 rbk hdep
            go_simp
            exact HKX.out _ _ (HQX.out _ ax HCX.out (by omega) (Gr.refl _ _)) (by unfold RcDR; rw [if_neg (by decide)]; exact Gr.refl _ _) (upd_same _ _ _)
          · simp only [List.getElem?_toArray, List.getElem?_cons_succ, List.getElem?_cons_zero, Option.some.injEq] at ho
            subst ho
            have HKX := Lib.hid HK
            clear HK
            have p5 := (rb0 5 (by decide)).trans rq5
            clear rb0 rbk hdep
            go_simp
            exact HKX.out _ _ (HQX.out _ ax HCX.out (by omega) (Gr.refl _ _)) (by unfold RcDR; rw [if_neg (by decide)]; exact Gr.refl _ _) (upd_same _ _ _)
          · simp only [List.getElem?_toArray, List.getElem?_cons_succ, List.getElem?_cons_zero, Option.some.injEq] at ho
            subst ho
            have HKX := Lib.hid HK
            clear HK
            have p7 := (rb0 7 (by decide)).trans rq7
            clear rb0 rbk hdep
            go_simp
            exact HKX.out _ _ (HQX.out _ ax HCX.out (by omega) (Gr.refl _ _)) (by unfold RcDR; rw [if_neg (by decide)]; exact Gr.refl _ _) (upd_same _ _ _)
          · simp only [List.getElem?_toArray, List.getElem?_cons_succ, List.getElem?_cons_zero, Option.some.injEq] at ho
            subst ho
            have HKX := Lib.hid HK
            clear HK
            have e2 : vs 66 = .slice (some ⟨LL, 0, none⟩) p cb := (hdep 2 (by kernel_rfl)).2
            have rr2 := (rbk 66 (by decide)).trans e2
            have E2 := Lib.hid e2
            clear e2
            have e3 : vs 67 = .int .i64 (v : Int) := (hdep 3 (by kernel_rfl)).2
            have rr3 := (rbk 67 (by decide)).trans e3
            have E3 := Lib.hid e3
            clear e3
            clear rb0 rbk hdep
            go_simp
            exact HKX.out _ _ (HQX.out _ ax HCX.out (by omega) (Gr.refl _ _)) (by unfold RcDR; rw [if_neg (by decide)]; exact Gr.refl _ _) (upd_same _ _ _)
          · simp only [List.getElem?_toArray, List.getElem?_cons_succ, List.getElem?_cons_zero, Option.some.injEq] at ho
            subst ho
            have HKX := Lib.hid HK
            clear HK
            have e4 : vs 68 = .pointer (some ⟨LL, v * 3, none⟩) := (hdep 4 (by kernel_rfl)).2
            have rr4 := (rbk 68 (by decide)).trans e4
            have E4 := Lib.hid e4
            clear e4
            clear rb0 rbk hdep
            go_simp
            exact HKX.out _ _ (HQX.out _ ax HCX.out (by omega) (Gr.refl _ _)) (by unfold RcDR; rw [if_neg (by decide)]; exact Gr.refl _ _) (upd_same _ _ _)
          · simp only [List.getElem?_toArray, List.getElem?_cons_succ, List.getElem?_cons_zero, Option.some.injEq] at ho
            subst ho
            have HKX := Lib.hid HK
            clear HK
            have e5 : vs 69 = .pointer (some ⟨LL, v * 3, none⟩) := (hdep 5 (by kernel_rfl)).2
            have rr5 := (rbk 69 (by decide)).trans e5
            have E5 := Lib.hid e5
            clear e5
            have hNL : ¬ rL 17 := fun h => hnl (HCL.out 15 _ 6 rfl (HCL.out 17 _ 15 rfl h (by kernel_rfl)) (by kernel_rfl))
            have HGP := Lib.hid (HPRE.out hNL)
            obtain ⟨e0, e1, e2⟩ := own3 (own_gr HR5.out HGP.out hgw) hx
            dsimp only at e0 e1 e2
            have leL : LL < wx.heap.size := Nat.lt_of_lt_of_le hLl HGP.out.size
            clear rb0 rbk hdep
            go_simp
            exact HKX.out _ _ (HQX.out _ ax HCX.out (by omega) (Gr.refl _ _)) (by unfold RcDR; rw [if_neg (by decide)]; exact Gr.refl _ _) (upd_same _ _ _)
          · simp only [List.getElem?_toArray, List.getElem?_cons_succ, List.getElem?_cons_zero, Option.some.injEq] at ho
            subst ho
            have HKX := Lib.hid HK
            clear HK
            have p5 := (rb0 5 (by decide)).trans rq5
            clear rb0 rbk hdep
            go_simp
            exact HKX.out _ _ (HQX.out _ ax HCX.out (by omega) (Gr.refl _ _)) (by unfold RcDR; rw [if_neg (by decide)]; exact Gr.refl _ _) (upd_same _ _ _)
          · simp only [List.getElem?_toArray, List.getElem?_cons_succ, List.getElem?_cons_zero, Option.some.injEq] at ho
            subst ho
            have HKX := Lib.hid HK
            clear HK
            have p7 := (rb0 7 (by decide)).trans rq7
            clear rb0 rbk hdep
            go_simp
            exact HKX.out _ _ (HQX.out _ ax HCX.out (by omega) (Gr.refl _ _)) (by unfold RcDR; rw [if_neg (by decide)]; exact Gr.refl _ _) (upd_same _ _ _)
          · simp only [List.getElem?_toArray, List.getElem?_cons_succ, List.getElem?_cons_zero, Option.some.injEq] at ho
            subst ho
            have HKX := Lib.hid HK
            clear HK
            have e7 : vs 71 = .slice (some ⟨LL, 0, none⟩) p cb := (hdep 7 (by kernel_rfl)).2
            have rr7 := (rbk 71 (by decide)).trans e7
            have E7 := Lib.hid e7
            clear e7
            have e8 : vs 72 = .int .i64 (v : Int) := (hdep 8 (by kernel_rfl)).2
            have rr8 := (rbk 72 (by decide)).trans e8
            have E8 := Lib.hid e8
            clear e8
            clear rb0 rbk hdep
            go_simp
            exact HKX.out _ _ (HQX.out _ ax HCX.out (by omega) (Gr.refl _ _)) (by unfold RcDR; rw [if_neg (by decide)]; exact Gr.refl _ _) (upd_same _ _ _)
          · simp only [List.getElem?_toArray, List.getElem?_cons_succ, List.getElem?_cons_zero, Option.some.injEq] at ho
            subst ho
            have HKX := Lib.hid HK
            clear HK
            have e9 : vs 73 = .pointer (some ⟨LL, v * 3, none⟩) := (hdep 9 (by kernel_rfl)).2
            have rr9 := (rbk 73 (by decide)).trans e9
            have E9 := Lib.hid e9
            clear e9
            clear rb0 rbk hdep
            go_simp
            exact HKX.out _ _ (HQX.out _ ax HCX.out (by omega) (Gr.refl _ _)) (by unfold RcDR; rw [if_neg (by decide)]; exact Gr.refl _ _) (upd_same _ _ _)
          · simp only [List.getElem?_toArray, List.getElem?_cons_succ, List.getElem?_cons_zero, Option.some.injEq] at ho
            subst ho
            have HKX := Lib.hid HK
            clear HK
            have e10 : vs 74 = .pointer (some ⟨LL, v * 3 + 1, none⟩) := (hdep 10 (by kernel_rfl)).2
            have rr10 := (rbk 74 (by decide)).trans e10
            have E10 := Lib.hid e10
            clear e10
            have hNL : ¬ rL 17 := fun h => hnl (HCL.out 15 _ 11 rfl (HCL.out 17 _ 15 rfl h (by kernel_rfl)) (by kernel_rfl))
            have HGP := Lib.hid (HPRE.out hNL)
            obtain ⟨e0, e1, e2⟩ := own3 (own_gr HR5.out HGP.out hgw) hx
            dsimp only at e0 e1 e2
            have leL : LL < wx.heap.size := Nat.lt_of_lt_of_le hLl HGP.out.size
            clear rb0 rbk hdep
            go_simp
            exact HKX.out _ _ (HQX.out _ ax HCX.out (by omega) (Gr.refl _ _)) (by unfold RcDR; rw [if_neg (by decide)]; exact Gr.refl _ _) (upd_same _ _ _)
          · simp only [List.getElem?_toArray, List.getElem?_cons_succ, List.getElem?_cons_zero, Option.some.injEq] at ho
            subst ho
            have HKX := Lib.hid HK
            clear HK
            have p0 := (rb0 0 (by decide)).trans rq0
            clear rb0 rbk hdep
            go_simp
            exact HKX.out _ _ (HQX.out _ ax HCX.out (by omega) (Gr.refl _ _)) (by unfold RcDR; rw [if_neg (by decide)]; exact Gr.refl _ _) (upd_same _ _ _)
          · simp only [List.getElem?_toArray, List.getElem?_cons_succ, List.getElem?_cons_zero, Option.some.injEq] at ho
            subst ho
            have HKX := Lib.hid HK
            clear HK
            have hSx : w.heap.size ≤ wx.heap.size := HGW.out.size
            clear rb0 rbk hdep
            go_simp
            exact HKX.out _ _ (HQX.out _ ax (HCX.out.ext (ext_alloc (ext_refl _) _)) (by omega) (Gr.alloc _ _ _)) (by unfold RcDR; rw [if_neg (by decide)]; exact Gr.alloc _ _ _) ⟨wx.heap.size, upd_same _ _ _, hSx, Blk.born _ _ _ rfl⟩
          · simp only [List.getElem?_toArray, List.getElem?_cons_succ, List.getElem?_cons_zero, Option.some.injEq] at ho
            subst ho
            have HKX := Lib.hid HK
            clear HK
            have e12 : vs 76 = .pointer (some ⟨g, 0, none⟩) := (hdep 12 (by kernel_rfl)).2
            have rr12 := (rbk 76 (by decide)).trans e12
            have E12 := Lib.hid e12
            clear e12
            obtain ⟨x, e13, k13_0, k13_1⟩ := (hdep 13 (by kernel_rfl)).2
            have rr13 := (rbk 77 (by decide)).trans e13
            have E13 := Lib.hid e13
            clear e13
            have K13_1 := Lib.hid k13_1
            clear k13_1
            clear rb0 rbk hdep
            go_simp
            refine (among_any g ax _ 3 _ (-1) 2 _ HCX.out (by omega) (by decide) (by decide) (allAt_blk (l := [1, -1, 2]) K13_1.out rfl rfl (by omega) (by decide))).mono ?_
            rintro e w' ⟨z, a2, rfl, nF0, nF1, ha2, hc2, hg2⟩
            go_simp
            exact HKX.out _ _ (HQX.out _ a2 hc2 (by omega) hg2) (by unfold RcDR; rw [if_neg (by decide)]; exact hg2) (⟨z, upd_same _ _ _, nF0, nF1⟩)
          · simp only [List.getElem?_toArray, List.getElem?_cons_succ, List.getElem?_cons_zero, Option.some.injEq] at ho
            subst ho
            have HKX := Lib.hid HK
            clear HK
            obtain ⟨z, e14, k14_0, k14_1⟩ := (hdep 14 (by kernel_rfl)).2
            have rr14 := (rbk 78 (by decide)).trans e14
            have E14 := Lib.hid e14
            clear e14
            have e6 : vs 70 = .int .i64 xa := (hdep 6 (by kernel_rfl)).2
            have rr6 := (rbk 70 (by decide)).trans e6
            have E6 := Lib.hid e6
            clear e6
            have e11 : vs 75 = .int .i64 xb := (hdep 11 (by kernel_rfl)).2
            have rr11 := (rbk 75 (by decide)).trans e11
            have E11 := Lib.hid e11
            clear e11
            clear rb0 rbk hdep
            go_simp
            exact HKX.out _ _ (HQX.out _ ax HCX.out (by omega) (Gr.refl _ _)) (by unfold RcDR; rw [if_neg (by decide)]; exact Gr.refl _ _) (⟨z, upd_same _ _ _⟩)
          · simp only [List.getElem?_toArray, List.getElem?_cons_succ, List.getElem?_cons_zero, Option.some.injEq] at ho
            subst ho
            have HKX := Lib.hid HK
            clear HK
            have e0 : vs 64 = .slice (some ⟨LL, 0, none⟩) p cb := (hdep 0 (by kernel_rfl)).2
            have rr0 := (rbk 64 (by decide)).trans e0
            have E0 := Lib.hid e0
            clear e0
            have e1 : vs 65 = .int .i64 (v : Int) := (hdep 1 (by kernel_rfl)).2
            have rr1 := (rbk 65 (by decide)).trans e1
            have E1 := Lib.hid e1
            clear e1
            clear rb0 rbk hdep
            go_simp
            exact HKX.out _ _ (HQX.out _ ax HCX.out (by omega) (Gr.refl _ _)) (by unfold RcDR; rw [if_neg (by decide)]; exact Gr.refl _ _) (upd_same _ _ _)
          · simp only [List.getElem?_toArray, List.getElem?_cons_succ, List.getElem?_cons_zero, Option.some.injEq] at ho
            subst ho
            have HKX := Lib.hid HK
            clear HK
            obtain ⟨z, e15⟩ := (hdep 15 (by kernel_rfl)).2
            have rr15 := (rbk 79 (by decide)).trans e15
            have E15 := Lib.hid e15
            clear e15
            have e16 : vs 80 = .pointer (some ⟨LL, v * 3, none⟩) := (hdep 16 (by kernel_rfl)).2
            have rr16 := (rbk 80 (by decide)).trans e16
            have E16 := Lib.hid e16
            clear e16
            have hNL : ¬ rL 17 := hnl
            have HGP := Lib.hid (HPRE.out hNL)
            obtain ⟨e0, e1, e2⟩ := own3 (own_gr HR5.out HGP.out hgw) hx
            dsimp only at e0 e1 e2
            have leL : LL < wx.heap.size := Nat.lt_of_lt_of_le hLl HGP.out.size
            have HO := Lib.hid (own_gr HR5.out HGP.out hgw)
            have hlL : LL < wx.heap.size := (HO.out.lt _ rfl).2
            obtain ⟨x0, hx0⟩ : ∃ u, wx.cell? ⟨LL, v * 3, none⟩ = some u := by rw [HO.out.cellAt (v * 3) (by omega)]; exact list_split (by have := HO.out.1; omega)
            obtain ⟨x1, hx1⟩ : ∃ u, wx.cell? ⟨LL, v * 3 + 1, none⟩ = some u := by rw [HO.out.cellAt (v * 3 + 1) (by omega)]; exact list_split (by have := HO.out.1; omega)
            obtain ⟨x2, hx2⟩ : ∃ u, wx.cell? ⟨LL, v * 3 + 2, none⟩ = some u := by rw [HO.out.cellAt (v * 3 + 2) (by omega)]; exact list_split (by have := HO.out.1; omega)
            have hf0 := HO.out.frozenAt (v * 3)
            have hf1 := HO.out.frozenAt (v * 3 + 1)
            have hf2 := HO.out.frozenAt (v * 3 + 2)
            obtain ⟨cs, hcs⟩ := own_blkF HO.out
            have HCS := Lib.hid hcs
            have HS1 := Lib.hid (own3_set HO.out hvl xa xb z)
            clear rb0 rbk hdep hcs
            go_simp
            exact HKX.out undef _ ⟨ax, by omega, ((HCX.out.far (p := ⟨LL, v * 3, none⟩) hgL _).far (p := ⟨LL, v * 3 + 1, none⟩) hgL _).far (p := ⟨LL, v * 3 + 2, none⟩) hgL _, ((HGW.out.setNew (p := ⟨LL, v * 3, none⟩) hLw _).setNew (p := ⟨LL, v * 3 + 1, none⟩) hLw _).setNew (p := ⟨LL, v * 3 + 2, none⟩) hLw _, by simpa using hsz, fun hn => (hn (.inl rfl)).elim, fun hn => (hn (.inl rfl)).elim⟩ (by unfold RcDR; rw [if_pos rfl]; exact (((KeepW.refl _ _).set HCS.out (v * 3) _).set (HCS.out.set_ (v * 3) _) (v * 3 + 1) _).set ((HCS.out.set_ (v * 3) _).set_ (v * 3 + 1) _) (v * 3 + 2) _) ⟨z, HS1.out⟩
        intro vs wx kk rL hI hkk hLt hall
        obtain ⟨_, z, hO6⟩ := hall 17 (by decide)
        obtain ⟨a6, ha6, hc6, hg6, _, _, _⟩ := hI
        have hkk : kk ≤ 18 := by simpa using hkk
        have HO6 := Lib.hid hO6
        have HC6 := Lib.hid hc6
        have HG6 := Lib.hid hg6
        have HL6 := Lib.hid (show (ms.set v (⟨xa, xb, z⟩ : R3)).length = p by rw [List.length_set]; exact HL.out)
        clear hLt hall hO6 hc6 hg6
        simp only [sl]
        simp only [Act.put, List.setIfInBounds_toArray, List.set_cons_succ, List.set_cons_zero]
        go_wp2
        go_roundw
        case rel => exact ⟨k - 1, p, cb, a6, _, ms.set v ⟨xa, xb, z⟩, rfl, by rw [kpn], by omega, by omega, HL6, by omega, HC6, HG6, HO6⟩
        case measure => simp [intOf] <;> omega
      · go_wp2_with fail
        refine (pick_any g a3 4 _ HC3.out (by omega) (by omega) (by omega)).mono ?_
        rintro e w4 ⟨r, a4, rfl, r0, r1, ha4, hc, hg⟩
        have HC4 := Lib.hid hc
        have HG4 := Lib.hid (HG3.out.trans hg)
        have HO4 := Lib.hid (own_gr HO3.out hg hgw)
        clear hc hg HC3 HG3 HO3 hbV
        have hbV := HG4.out.size
        have m1 : p + 1 ≤ maxLen := by unfold maxLen; omega
        have m2 : (p + 1) * 24 ≤ 140737488355328 := by omega
        go_wp2_with (at_builtin; refine wpList_appO rfl (.tmp 83) (.tmp 87) 27 rfl w.heap.size 75 i0 _ 3 24 Try.underlying27 hi hz0 hz1 hz2 rfl (by decide) (.slice (some ⟨LL, 0, none⟩) p cb) p (rowsV3 ms) rfl (HO4.out.alloc (.cells #[.int .i64 r, .int .i64 1, .int .i64 1] 75)) (some ⟨w4.heap.size, 0, none⟩) 1 1 [.int .i64 r, .int .i64 1, .int .i64 1] rfl w.heap.size (lit_ownV (B := w.heap.size) w4 75 3 [.int .i64 r, .int .i64 1, .int .i64 1] rfl hbV (by rfl)) (ints_oneV [r, 1, 1]) m1 m2 (Nat.le_trans hbV (by simp)) ?_; intro B4 cb4 w6 hown hgrow; have HGR := Lib.hid hgrow; have HOW := Lib.hid hown; clear hown hgrow)
        have hrow : ∀ b9, Value.ownBlock (.slice (some ⟨LL, 0, none⟩) p cb) = some b9 → w.heap.size ≤ b9 := fun b9 e9 => (HO4.out.lt _ e9).1
        have HC6 := Lib.hid ((HC4.out.ext (ext_alloc (ext_refl _) (.cells #[.int .i64 r, .int .i64 1, .int .i64 1] 75))).grown HGR.out (fun b9 e9 => Nat.lt_of_lt_of_le hgw (hrow b9 e9)))
        have HG6 := Lib.hid ((HG4.out.trans (Gr.alloc _ _ (.cells #[.int .i64 r, .int .i64 1, .int .i64 1] 75))).grown HGR.out hrow)
        have HO6 := Lib.hid (show w6.ownsRow w.heap.size 75 3 (.slice B4 (p + 1) cb4) (p + 1) (rowsV3 (ms ++ [⟨r, 1, 1⟩])) by have h9 := HOW.out; simpa [rowsV3, R3.cells] using h9)
        clear HC4 HG4 HO4 HGR HOW hrow
        go_wp2
        go_roundw
        case rel => exact ⟨k - 1, p + 1, cb4, a4, B4, ms ++ [⟨r, 1, 1⟩], rfl, by rw [kpn], by omega, by omega, Lib.hid (by rw [List.length_append, HL.out]; rfl), by omega, HC6, HG6, HO6⟩
        case measure => simp [intOf] <;> omega
      · by_cases hv0 : 0 < v
        · have hv1 : (0 : Int) < (v : Int) := by omega
          have hgL : g < LL := by omega
          have hvz2 : IntKind.i64.wrap ((v : Int) - 1) = (v : Int) - 1 := by rw [IntKind.wrap_i64]; omega
          have hvm : (v : Int) - 1 < (p : Int) := by omega
          have hvm0 : (0 : Int) ≤ (v : Int) - 1 := by omega
          obtain ⟨u, rfl⟩ : ∃ u, v = u + 1 := ⟨v - 1, by omega⟩
          have hu : ((u + 1 : Nat) : Int) - 1 = (u : Int) := by omega
          obtain ⟨x, hx⟩ := list_split (l := ms) (k := u + 1) (by rw [HL.out]; exact hv)
          obtain ⟨y, hy⟩ := list_split (l := ms) (k := u) (by rw [HL.out]; omega)
          have X0 := own3 HO3.out hx
          have Y0 := own3 HO3.out hy
          obtain ⟨x0, x1, x2⟩ := X0
          obtain ⟨y0, y1, y2⟩ := Y0
          obtain ⟨xa, xb, xc⟩ := x
          obtain ⟨ya, yb, yc⟩ := y
          dsimp only at x0 x1 x2 y0 y1 y2
          go_upto_region 8 with fail
          go_cut [8, 9] (fun s8 s9 wx => ∃ q8 q9 : Nat, s8 = .pointer (some ⟨q8, 0, none⟩) ∧ s9 = .pointer (some ⟨q9, 0, none⟩) ∧ w3.heap.size ≤ q8 ∧ w3.heap.size ≤ q9 ∧ Hid (Blk wx q8 75 #[.int .i64 ya, .int .i64 yb, .int .i64 yc]) ∧ Hid (Blk wx q9 75 #[.int .i64 xa, .int .i64 xb, .int .i64 xc]) ∧ Hid (CurAt wx g a3) ∧ Hid (Gr g w wx) ∧ Hid (wx.ownsRow w.heap.size 75 3 (.slice (some ⟨LL, 0, none⟩) p cb) p (rowsV3 ms)))
          case first =>
           go_region
           all_goals
            go_wp2_with fail
            go_meet
            refine ⟨_, _, rfl, rfl, by omega, by omega, ?_, ?_, ?_, ?_, ?_⟩
            · refine Lib.hid ?_
              repeat (first | (with_reducible exact Blk.born _ _ _ rfl) | (with_reducible exact Blk.born _ _ _ (by simp)) | (with_reducible refine Blk.al ?_ _) | (with_reducible refine Blk.dr1 ?_))
            · refine Lib.hid ?_
              repeat (first | (with_reducible exact Blk.born _ _ _ rfl) | (with_reducible exact Blk.born _ _ _ (by simp)) | (with_reducible refine Blk.al ?_ _) | (with_reducible refine Blk.dr1 ?_))
            · exact Lib.hid (HC3.out.ext (ext_drew (ext_alloc (ext_alloc (ext_refl _) _) _)))
            · exact Lib.hid (HG3.out.trans (Gr.of_ext (ext_drew (ext_alloc (ext_alloc (ext_refl _) _) _))))
            · exact Lib.hid (World.ownsRow.drew ((HO3.out.alloc _).alloc _))
          case rest =>
           clear HC3 HG3 HO3 x0 x1 x2 y0 y1 y2 hbV
           obtain ⟨q8, q9, rfl, rfl, hq8, hq9, B8, B9, HC3, HG3, HO3⟩ := hcut
           obtain ⟨W9, hW9⟩ : ∃ y : World, y = wc := ⟨_, rfl⟩
           subst hW9
           obtain ⟨x0, x1, x2⟩ := B9.out.q3
           obtain ⟨y0, y1, y2⟩ := B8.out.q3
           have l8 := B8.out.lt
           have l9 := B9.out.lt
           have hL8 : LL ≠ q8 := by omega
           have hL9 : LL ≠ q9 := by omega
           have hLW : LL < W9.heap.size := by omega
           obtain ⟨e0, e1, e2⟩ := own3 HO3.out hy
           have z0 := HO3.out.frozenAt (u * 3)
           have z1 := HO3.out.frozenAt (u * 3 + 1)
           have z2 := HO3.out.frozenAt (u * 3 + 2)
           obtain ⟨W10, hW10⟩ : ∃ y : World, y = ((W9.setCell ⟨LL, u * 3, none⟩ (.int .i64 xa)).setCell ⟨LL, u * 3 + 1, none⟩ (.int .i64 xb)).setCell ⟨LL, u * 3 + 2, none⟩ (.int .i64 xc) := ⟨_, rfl⟩
           have HO4 := Lib.hid (show W10.ownsRow w.heap.size 75 3 (.slice (some ⟨LL, 0, none⟩) p cb) p (rowsV3 (ms.set u ⟨xa, xb, xc⟩)) by rw [hW10]; exact own3_set HO3.out (by rw [HL.out]; omega) _ _ _)
           have HC4 := Lib.hid (show CurAt W10 g a3 by rw [hW10]; exact ((HC3.out.far (p := ⟨LL, u * 3, none⟩) hgL _).far (p := ⟨LL, u * 3 + 1, none⟩) hgL _).far (p := ⟨LL, u * 3 + 2, none⟩) hgL _)
           have HG4 := Lib.hid (show Gr g w W10 by rw [hW10]; exact ((HG3.out.setNew (p := ⟨LL, u * 3, none⟩) hLw _).setNew (p := ⟨LL, u * 3 + 1, none⟩) hLw _).setNew (p := ⟨LL, u * 3 + 2, none⟩) hLw _)
           have B84 := Lib.hid (show Blk W10 q8 75 #[.int .i64 ya, .int .i64 yb, .int .i64 yc] by rw [hW10]; exact ((B8.out.setF (p := ⟨LL, u * 3, none⟩) hL8 _).setF (p := ⟨LL, u * 3 + 1, none⟩) hL8 _).setF (p := ⟨LL, u * 3 + 2, none⟩) hL8 _)
           have hy2 : (ms.set u (⟨xa, xb, xc⟩ : R3))[u + 1]? = some ⟨xa, xb, xc⟩ := by rw [List.getElem?_set_ne (by omega)]; exact hx
           go_upto_region 10 with fail
           rw [← hW10]
           clear hW10 HO3 HC3 HG3 B8 B9 x0 x1 x2 y0 y1 y2 e0 e1 e2 z0 z1 z2
           obtain ⟨y0, y1, y2⟩ := B84.out.q3
           have l84 := B84.out.lt
           have hLW4 : LL < W10.heap.size := (HO4.out.lt _ rfl).2
           obtain ⟨e0, e1, e2⟩ := own3 HO4.out hy2
           have z0 := HO4.out.frozenAt ((u + 1) * 3)
           have z1 := HO4.out.frozenAt ((u + 1) * 3 + 1)
           have z2 := HO4.out.frozenAt ((u + 1) * 3 + 2)
           obtain ⟨W11, hW11⟩ : ∃ y : World, y = ((W10.setCell ⟨LL, (u + 1) * 3, none⟩ (.int .i64 ya)).setCell ⟨LL, (u + 1) * 3 + 1, none⟩ (.int .i64 yb)).setCell ⟨LL, (u + 1) * 3 + 2, none⟩ (.int .i64 yc) := ⟨_, rfl⟩
           have HO5 := Lib.hid (show W11.ownsRow w.heap.size 75 3 (.slice (some ⟨LL, 0, none⟩) p cb) p (rowsV3 ((ms.set u ⟨xa, xb, xc⟩).set (u + 1) ⟨ya, yb, yc⟩)) by rw [hW11]; exact own3_set HO4.out (by rw [List.length_set, HL.out]; omega) _ _ _)
           have HC5 := Lib.hid (show CurAt W11 g a3 by rw [hW11]; exact ((HC4.out.far (p := ⟨LL, (u + 1) * 3, none⟩) hgL _).far (p := ⟨LL, (u + 1) * 3 + 1, none⟩) hgL _).far (p := ⟨LL, (u + 1) * 3 + 2, none⟩) hgL _)
           have HG5 := Lib.hid (show Gr g w W11 by rw [hW11]; exact ((HG4.out.setNew (p := ⟨LL, (u + 1) * 3, none⟩) hLw _).setNew (p := ⟨LL, (u + 1) * 3 + 1, none⟩) hLw _).setNew (p := ⟨LL, (u + 1) * 3 + 2, none⟩) hLw _)
           have hl5 := Lib.hid (show ((ms.set u (⟨xa, xb, xc⟩ : R3)).set (u + 1) ⟨ya, yb, yc⟩).length = p by rw [List.length_set, List.length_set]; exact HL.out)
           go_wp2
           rw [← hW11]
           clear hW11
           go_roundw
           case rel => exact ⟨k - 1, p, cb, a3, _, (ms.set u ⟨xa, xb, xc⟩).set (u + 1) ⟨ya, yb, yc⟩, rfl, by rw [kpn], by omega, by omega, hl5, by omega, HC5, HG5, HO5⟩
           case measure => simp [intOf] <;> omega
        · obtain rfl : v = 0 := by omega
          go_wp2
          go_roundw
          case rel => exact ⟨k - 1, p, cb, a3, _, ms, rfl, by rw [kpn], by omega, by omega, HL, by omega, HC3, HG3, HO3⟩
          case measure => simp [intOf] <;> omega
    · have hp1 : ¬ (0 : Int) < (p : Int) := by omega
      go_wp2_with fail
      refine (one_any g a1 32 _ HC1.out (by omega) (by omega) (by omega)).mono ?_
      rintro e w2 ⟨bb, a2, rfl, ha2, hc, hg⟩
      have HC2 := Lib.hid hc
      have HG2 := Lib.hid (HG1.out.trans hg)
      have HO2 := Lib.hid (own_gr HO1.out hg hgw)
      clear hc hg HC1 HG1 HO1
      cases bb
      · go_wp2
        go_ret
        exact ⟨ms, B, cb, a2, by rw [HL.out]; rfl, by rw [HL.out]; omega, by rw [HL.out]; exact HO2.out, by omega, HC2.out, HG2.out⟩
      · go_wp2_with fail
        go_loopw [5] (fun ov wr => ∃ (p cb a1 : Nat) (B : Option Addr) (ms : List R3), ov = .slice B p cb ∧ p ≤ 63 ∧ Hid (ms.length = p) ∧ a1 + 2 * (64 - p) ≤ a + 430 ∧ Hid (CurAt wr g a1) ∧ Hid (Gr g w wr) ∧ Hid (wr.ownsRow w.heap.size 75 3 (.slice B p cb) p (rowsV3 ms))) (fun ov _ => 64 - lenOfV ov)
        case atStart => exact ⟨p, cb, a2, B, ms, rfl, by omega, HL, by omega, HC2, HG2, HO2⟩
        case round =>
         clear HC2 HG2 HO2 ha2 ha1 HL hkp
         obtain ⟨p, cb, a1, B, ms, rfl, hp, HL, ha1, HC1, HG1, HO1⟩ := hrel
         go_wp2_with fail
         refine (pick_any g a1 2 _ HC1.out (by omega) (by omega) (by omega)).mono ?_
         rintro e w3 ⟨r, a3, rfl, r0, r1, ha3, hc, hg⟩
         have HC3 := Lib.hid hc
         have HG3 := Lib.hid (HG1.out.trans hg)
         have HO3 := Lib.hid (own_gr HO1.out hg hgw)
         clear hc hg HC1 HG1 HO1
         have sr : IntKind.i64.wrap (12 + r) = 12 + r := by rw [IntKind.wrap_i64]; omega
         by_cases hlt : (p : Int) < 12 + r
         · have hbV := HG3.out.size
           have m1 : p + 1 ≤ maxLen := by unfold maxLen; omega
           have m2 : (p + 1) * 24 ≤ 140737488355328 := by omega
           have htm : (p : Int).tmod 2 = (p : Int) % 2 := Int.tmod_eq_emod_of_nonneg (by omega)
           have hz : 0 ≤ (p : Int) % 2 ∧ (p : Int) % 2 ≤ 1 := by omega
           obtain ⟨z, hzz⟩ : ∃ o9, (p : Int) % 2 = o9 := ⟨_, rfl⟩
           rw [hzz] at htm hz
           have s1 : wrap64 (2 * z) = 2 * z := by unfold wrap64; omega
           have s2 : wrap64 (1 - 2 * z) = 1 - 2 * z := by unfold wrap64; omega
           go_wp2_with (at_builtin; refine wpList_appO rfl (.tmp 97) (.tmp 104) 27 rfl w.heap.size 75 i0 _ 3 24 Try.underlying27 hi hz0 hz1 hz2 rfl (by decide) (.slice B p cb) p (rowsV3 ms) rfl (HO3.out.alloc (.cells #[.int .i64 0, .int .i64 1, .int .i64 (1 - 2 * z)] 75)) (some ⟨w3.heap.size, 0, none⟩) 1 1 [.int .i64 0, .int .i64 1, .int .i64 (1 - 2 * z)] rfl w.heap.size (lit_ownV (B := w.heap.size) w3 75 3 [.int .i64 0, .int .i64 1, .int .i64 (1 - 2 * z)] rfl hbV (by rfl)) (ints_oneV [0, 1, (1 - 2 * z)]) m1 m2 (Nat.le_trans hbV (by simp)) ?_; intro B4 cb4 w6 hown hgrow; have HGR := Lib.hid hgrow; have HOW := Lib.hid hown; clear hown hgrow)
           have hrow : ∀ b9, Value.ownBlock (.slice B p cb) = some b9 → w.heap.size ≤ b9 := fun b9 e9 => (HO3.out.lt _ e9).1
           have HC6 := Lib.hid ((HC3.out.ext (ext_alloc (ext_refl _) (.cells #[.int .i64 0, .int .i64 1, .int .i64 (1 - 2 * z)] 75))).grown HGR.out (fun b9 e9 => Nat.lt_of_lt_of_le hgw (hrow b9 e9)))
           have HG6 := Lib.hid ((HG3.out.trans (Gr.alloc _ _ (.cells #[.int .i64 0, .int .i64 1, .int .i64 (1 - 2 * z)] 75))).grown HGR.out hrow)
           have HO6 := Lib.hid (show w6.ownsRow w.heap.size 75 3 (.slice B4 (p + 1) cb4) (p + 1) (rowsV3 (ms ++ [⟨0, 1, 1 - 2 * z⟩])) by have h9 := HOW.out; simpa [rowsV3, R3.cells] using h9)
           clear HC3 HG3 HO3 HGR HOW hrow
           go_wp2
           go_roundw
           case rel => exact ⟨p + 1, cb4, a3, B4, ms ++ [⟨0, 1, 1 - 2 * z⟩], rfl, by omega, Lib.hid (by rw [List.length_append, HL.out]; rfl), by omega, HC6, HG6, HO6⟩
           case measure => simp [lenOfV] <;> omega
         · go_wp2
           go_ret
           exact ⟨ms, B, cb, a3, by rw [HL.out]; rfl, by rw [HL.out]; omega, by rw [HL.out]; exact HO3.out, by omega, HC3.out, HG3.out⟩
  · have hk1 : ¬ (0 : Int) < (k : Int) := by omega
    go_wp2_with fail
    refine (one_any g a1 32 _ HC1.out (by omega) (by omega) (by omega)).mono ?_
    rintro e w2 ⟨bb, a2, rfl, ha2, hc, hg⟩
    have HC2 := Lib.hid hc
    have HG2 := Lib.hid (HG1.out.trans hg)
    have HO2 := Lib.hid (own_gr HO1.out hg hgw)
    clear hc hg HC1 HG1 HO1
    cases bb
    · go_wp2
      go_ret
      exact ⟨ms, B, cb, a2, by rw [HL.out]; rfl, by rw [HL.out]; omega, by rw [HL.out]; exact HO2.out, by omega, HC2.out, HG2.out⟩
    · go_wp2_with fail
      go_loopw [5] (fun ov wr => ∃ (p cb a1 : Nat) (B : Option Addr) (ms : List R3), ov = .slice B p cb ∧ p ≤ 63 ∧ Hid (ms.length = p) ∧ a1 + 2 * (64 - p) ≤ a + 430 ∧ Hid (CurAt wr g a1) ∧ Hid (Gr g w wr) ∧ Hid (wr.ownsRow w.heap.size 75 3 (.slice B p cb) p (rowsV3 ms))) (fun ov _ => 64 - lenOfV ov)
      case atStart => exact ⟨p, cb, a2, B, ms, rfl, by omega, HL, by omega, HC2, HG2, HO2⟩
      case round =>
       clear HC2 HG2 HO2 ha2 ha1 HL hkp
       obtain ⟨p, cb, a1, B, ms, rfl, hp, HL, ha1, HC1, HG1, HO1⟩ := hrel
       go_wp2_with fail
       refine (pick_any g a1 2 _ HC1.out (by omega) (by omega) (by omega)).mono ?_
       rintro e w3 ⟨r, a3, rfl, r0, r1, ha3, hc, hg⟩
       have HC3 := Lib.hid hc
       have HG3 := Lib.hid (HG1.out.trans hg)
       have HO3 := Lib.hid (own_gr HO1.out hg hgw)
       clear hc hg HC1 HG1 HO1
       have sr : IntKind.i64.wrap (12 + r) = 12 + r := by rw [IntKind.wrap_i64]; omega
       by_cases hlt : (p : Int) < 12 + r
       · have hbV := HG3.out.size
         have m1 : p + 1 ≤ maxLen := by unfold maxLen; omega
         have m2 : (p + 1) * 24 ≤ 140737488355328 := by omega
         have htm : (p : Int).tmod 2 = (p : Int) % 2 := Int.tmod_eq_emod_of_nonneg (by omega)
         have hz : 0 ≤ (p : Int) % 2 ∧ (p : Int) % 2 ≤ 1 := by omega
         obtain ⟨z, hzz⟩ : ∃ o9, (p : Int) % 2 = o9 := ⟨_, rfl⟩
         rw [hzz] at htm hz
         have s1 : wrap64 (2 * z) = 2 * z := by unfold wrap64; omega
         have s2 : wrap64 (1 - 2 * z) = 1 - 2 * z := by unfold wrap64; omega
         go_wp2_with (at_builtin; refine wpList_appO rfl (.tmp 97) (.tmp 104) 27 rfl w.heap.size 75 i0 _ 3 24 Try.underlying27 hi hz0 hz1 hz2 rfl (by decide) (.slice B p cb) p (rowsV3 ms) rfl (HO3.out.alloc (.cells #[.int .i64 0, .int .i64 1, .int .i64 (1 - 2 * z)] 75)) (some ⟨w3.heap.size, 0, none⟩) 1 1 [.int .i64 0, .int .i64 1, .int .i64 (1 - 2 * z)] rfl w.heap.size (lit_ownV (B := w.heap.size) w3 75 3 [.int .i64 0, .int .i64 1, .int .i64 (1 - 2 * z)] rfl hbV (by rfl)) (ints_oneV [0, 1, (1 - 2 * z)]) m1 m2 (Nat.le_trans hbV (by simp)) ?_; intro B4 cb4 w6 hown hgrow; have HGR := Lib.hid hgrow; have HOW := Lib.hid hown; clear hown hgrow)
         have hrow : ∀ b9, Value.ownBlock (.slice B p cb) = some b9 → w.heap.size ≤ b9 := fun b9 e9 => (HO3.out.lt _ e9).1
         have HC6 := Lib.hid ((HC3.out.ext (ext_alloc (ext_refl _) (.cells #[.int .i64 0, .int .i64 1, .int .i64 (1 - 2 * z)] 75))).grown HGR.out (fun b9 e9 => Nat.lt_of_lt_of_le hgw (hrow b9 e9)))
         have HG6 := Lib.hid ((HG3.out.trans (Gr.alloc _ _ (.cells #[.int .i64 0, .int .i64 1, .int .i64 (1 - 2 * z)] 75))).grown HGR.out hrow)
         have HO6 := Lib.hid (show w6.ownsRow w.heap.size 75 3 (.slice B4 (p + 1) cb4) (p + 1) (rowsV3 (ms ++ [⟨0, 1, 1 - 2 * z⟩])) by have h9 := HOW.out; simpa [rowsV3, R3.cells] using h9)
         clear HC3 HG3 HO3 HGR HOW hrow
         go_wp2
         go_roundw
         case rel => exact ⟨p + 1, cb4, a3, B4, ms ++ [⟨0, 1, 1 - 2 * z⟩], rfl, by omega, Lib.hid (by rw [List.length_append, HL.out]; rfl), by omega, HC6, HG6, HO6⟩
         case measure => simp [lenOfV] <;> omega
       · go_wp2
         go_ret
         exact ⟨ms, B, cb, a3, by rw [HL.out]; rfl, by rw [HL.out]; omega, by rw [HL.out]; exact HO3.out, by omega, HC3.out, HG3.out⟩

end Go.Proofs.Ytphhelmcaehclaa
