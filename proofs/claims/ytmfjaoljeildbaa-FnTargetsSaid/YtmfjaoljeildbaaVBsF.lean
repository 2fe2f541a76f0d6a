/- l13Targets. -/
import Derived.Deep.CutBlock
import Derived.Test.YtmfjaoljeildbaaVM5
import Derived.Test.YtmfjaoljeildbaaVBsB
namespace Go.Proofs.Ytmfjaoljeildbaa
open Go.RowKit
set_option linter.unusedVariables false
set_option linter.unusedSimpArgs false
theorem own_blk1 {w : World} {B x e : Nat} {a : Value} (h : Blk w x e #[a]) (hB : B ≤ x) : w.ownsRow B e 1 (.slice (some ⟨x, 0, none⟩) 1 1) 1 [a] :=
 ⟨by simp, .inr ⟨x, 1, #[a], rfl, hB, h, Nat.le_refl _, by unfold maxLen; omega, by simp, by simp⟩⟩
theorem dj_more {w : World} {B e size n : Nat} {v u u' : Value} {xs : List Value} (h : w.ownsRow B e size v n xs) (hd : v.ownBlock = none ∨ v.ownBlock ≠ u.ownBlock) (hat : u'.ownBlock = u.ownBlock ∨ u'.ownBlock = some w.heap.size) : v.ownBlock = none ∨ v.ownBlock ≠ u'.ownBlock := by
 rcases hd with hd | hd
 · exact .inl hd
 · refine .inr fun e => ?_
   rcases hat with ha | ha
   · exact hd (e.trans ha)
   · have := (h.lt _ (e.trans ha)).2
     omega
section
variable {P : Program} {w : World} {ops : Array Oper} {o : Oper} {a : Act} {Q : Exit → Act → World → Prop} {K : Act → World → Prop} {E : Prop}
/-- as step_appO; and where the row lies -/
theorem step_appL (hgd : o.guard = none) (s x : Operand) (t : TypeId) (ho : o.op = .call { callee := .builtin .append, args := #[s, x], argTypes := #[t, t] })
 (base : Nat) (e : TypeId) (i : TypeInfo) (z : Value) (size bytes : Nat) (ht : P.underlying t = some (.slice e)) (hi : P.info? e = some i) (hz : i.zero = some z)
 (hsize : i.size = size) (hby : i.bytes = bytes) (hzs : z.cells.size = size) (hsz : 0 < size)
 (v : Value) (n : Nat) (xs : List Value) (hs : a.eval s = v) (hown : w.ownsRow base e size v n xs)
 (A : Option Addr) (m c : Nat) (ys : List Value) (hx : a.eval x = .slice A m c) (B : Nat) (hsrc : w.ownsRow B e size (.slice A m c) m ys) (h1 : ∀ u ∈ ys, u.oneCell' = true)
 (h63 : n + m ≤ maxLen) (hbytes : (n + m) * bytes ≤ 140737488355328) (hbase : base ≤ w.heap.size)
 (h : ∀ A' c' w', w'.ownsRow base e size (.slice A' (n + m) c') (n + m) (xs ++ ys) → w.grownBy w' v.ownBlock → (Value.ownBlock (.slice A' (n + m) c') = v.ownBlock ∨ Value.ownBlock (.slice A' (n + m) c') = some w.heap.size) → K (a.put o.dst (.slice A' (n + m) c')) w') :
 if Region.wanted o (yielded ops a.tmps) = true then Oper.wp P o a w K Q else E := by
 rw [if_pos (by simp [Region.wanted, hgd])]
 obtain ⟨v', w', hr, h2, h3, h4⟩ := run_appO (P := P) w t o.type base e i z size bytes ht hi hz hsize hby hzs hsz v n xs hown A m c ys hsrc.1 (own_src hsrc).1 (own_src hsrc).2 h1 h63 hbytes hbase
 unfold Oper.wp execOp
 simp only [ho, resolve, invoke, builtin, Sem.run_bind, Sem.run_pure, Result.andThen_ok, List.map_toArray, List.map_cons, List.map_nil, hs, hx, hr]
 obtain ⟨A', c', rfl⟩ := own_shape h2
 exact h A' c' w' h2 h3 h4
end
theorem dj_new {w w' : World} {B e size n e2 s2 n2 : Nat} {v u : Value} {xs ys : List Value} (h : w.ownsRow B e size v n xs) (h2 : w'.ownsRow w.heap.size e2 s2 u n2 ys) : u.ownBlock = none ∨ u.ownBlock ≠ v.ownBlock := by
 cases hu : u.ownBlock with
 | none => exact .inl rfl
 | some b =>
   refine .inr fun e => ?_
   have h3 := (h2.lt b hu).1
   have h4 := (h.lt b e.symm).2
   omega
def BsT (S g : Nat) (S0 B0 : Nat) (u lo : Int) (A : Option Addr) (N c : Nat) (Ao : Option Addr) (no co : Nat) (vals : List Value) (LL : List (List R2)) (br nr cr i r ct : Nat) (At : Option Addr) (valsR : List Value) (RS : List (List R2)) (t : List R2) (bf nf cf k : Nat) (fs : List R2) (fa fb : Int) (vs : Nat → Value) (wx : World) : Nat → Prop
 | 0 => vs 61 = .slice Ao no co
 | 1 => ∃ (xq : Nat), vs 62 = .slice (some ⟨xq, 0, none⟩) 0 0 ∧ (S0 ≤ xq) ∧ (Blk wx xq 86 #[])
 | 2 => vs 63 = .slice (some ⟨br, 0, none⟩) nr cr
 | 3 => vs 64 = .int .i64 (i : Int)
 | 4 => vs 65 = .pointer (some ⟨br, i, none⟩)
 | 5 => vs 66 = .slice At r ct
 | 6 => ∃ (A9 : Option Addr) (c9 : Nat), vs 67 = .slice A9 r c9 ∧ (wx.ownsRow S 86 2 (.slice A9 r c9) r (rowsV2 t))
 | 7 => vs 68 = .slice (some ⟨bf, 0, none⟩) nf cf
 | 8 => vs 69 = .int .i64 (k : Int)
 | 9 => vs 70 = .pointer (some ⟨bf, k * 2, none⟩)
 | 10 => vs 71 = .agg #[.int .i64 fa, .int .i64 fb]
 | 11 => ∃ (xq : Nat), vs 72 = .slice (some ⟨xq, 0, none⟩) 1 1 ∧ (S0 ≤ xq) ∧ (Blk wx xq 86 #[.int .i64 fa, .int .i64 fb])
 | 12 => ∃ (A8 : Option Addr) (c8 : Nat), vs 73 = .slice A8 (r + 1) c8 ∧ (wx.ownsRow S 86 2 (.slice A8 (r + 1) c8) (r + 1) (rowsV2 (t ++ [⟨fa, fb⟩])))
 | 13 => ∃ (xq : Nat) (A8 : Option Addr) (c8 : Nat), vs 74 = .slice (some ⟨xq, 0, none⟩) 1 1 ∧ (S0 ≤ xq) ∧ (Blk wx xq 24 #[.slice A8 (r + 1) c8]) ∧ (wx.ownsRow S 86 2 (.slice A8 (r + 1) c8) (r + 1) (rowsV2 (t ++ [⟨fa, fb⟩])))
 | 14 => ∃ (A7 : Option Addr) (c7 : Nat) (A8 : Option Addr) (c8 : Nat), vs 75 = .slice A7 (no + 1) c7 ∧ (wx.ownsRow B0 24 1 (.slice A7 (no + 1) c7) (no + 1) (vals ++ [.slice A8 (r + 1) c8])) ∧ (wx.ownsRow S0 86 2 (.slice A8 (r + 1) c8) (r + 1) (rowsV2 (t ++ [⟨fa, fb⟩]))) ∧ (Tgs wx B0 (r + 1) vals LL) ∧ (wx.ownsRow B0 24 1 (.slice (some ⟨br, 0, none⟩) nr cr) nr valsR) ∧ (Tgs wx B0 r valsR RS) ∧ (wx.ownsRow B0 86 2 (.slice (some ⟨bf, 0, none⟩) nf cf) nf (rowsV2 fs)) ∧ (Blk wx B0 26 #[.int .i64 u, .int .i64 lo, .slice A N c]) ∧ (Value.ownBlock (.slice (some ⟨br, 0, none⟩) nr cr) = none ∨ Value.ownBlock (.slice (some ⟨br, 0, none⟩) nr cr) ≠ Value.ownBlock (.slice A7 (no + 1) c7))
 | 15 => ∃ (A7 : Option Addr) (c7 : Nat) (A8 : Option Addr) (c8 : Nat), vs 7 = .slice A7 (no + 1) c7 ∧ (wx.ownsRow B0 24 1 (.slice A7 (no + 1) c7) (no + 1) (vals ++ [.slice A8 (r + 1) c8])) ∧ (wx.ownsRow S0 86 2 (.slice A8 (r + 1) c8) (r + 1) (rowsV2 (t ++ [⟨fa, fb⟩]))) ∧ (Tgs wx B0 (r + 1) vals LL) ∧ (wx.ownsRow B0 24 1 (.slice (some ⟨br, 0, none⟩) nr cr) nr valsR) ∧ (Tgs wx B0 r valsR RS) ∧ (wx.ownsRow B0 86 2 (.slice (some ⟨bf, 0, none⟩) nf cf) nf (rowsV2 fs)) ∧ (Blk wx B0 26 #[.int .i64 u, .int .i64 lo, .slice A N c]) ∧ (Value.ownBlock (.slice (some ⟨br, 0, none⟩) nr cr) = none ∨ Value.ownBlock (.slice (some ⟨br, 0, none⟩) nr cr) ≠ Value.ownBlock (.slice A7 (no + 1) c7))
 | _ => True
def BsTU : Nat → List Nat
 | 0 => [61]
 | 1 => [62]
 | 2 => [63]
 | 3 => [64]
 | 4 => [65]
 | 5 => [66]
 | 6 => [67]
 | 7 => [68]
 | 8 => [69]
 | 9 => [70]
 | 10 => [71]
 | 11 => [72]
 | 12 => [73]
 | 13 => [74]
 | 14 => [75]
 | 15 => [7]
 | _ => []
def BsTR (g : Nat) (S0 B0 : Nat) (u lo : Int) (A : Option Addr) (N c : Nat) (Ao : Option Addr) (no co : Nat) (vals : List Value) (LL : List (List R2)) (br nr cr i r ct : Nat) (At : Option Addr) (valsR : List Value) (RS : List (List R2)) (t : List R2) (bf nf cf k : Nat) (fs : List R2) (fa fb : Int) (i : Nat) (wx wy : World) : Prop := if i = 6 then ∃ bz : Nat, Blk wx bz 86 #[] ∧ S0 ≤ bz ∧ wx.grownBy wy (some bz) else if i = 12 then ∃ (Az : Option Addr) (nz cz : Nat) (xz : List Value), wx.ownsRow S0 86 2 (.slice Az nz cz) nz xz ∧ wx.grownBy wy (Value.ownBlock (.slice Az nz cz)) else if i = 14 then wx.grownBy wy (Value.ownBlock (.slice Ao no co)) else Below wx.heap.size wx wy
theorem BsT_gr {S g : Nat} {S0 B0 : Nat} {u lo : Int} {A : Option Addr} {N c : Nat} {Ao : Option Addr} {no co : Nat} {vals : List Value} {LL : List (List R2)} {br nr cr i r ct : Nat} {At : Option Addr} {valsR : List Value} {RS : List (List R2)} {t : List R2} {bf nf cf k : Nat} {fs : List R2} {fa fb : Int} (hgS : True) {vs us : Nat → Value} {wx wy : World} {jN : Nat} (hGG : BsT S g S0 B0 u lo A N c Ao no co vals LL br nr cr i r ct At valsR RS t bf nf cf k fs fa fb vs wx jN) (haG : ∀ d ∈ BsTU jN, us d = vs d) (hbG : Below wx.heap.size wx wy) : BsT S g S0 B0 u lo A N c Ao no co vals LL br nr cr i r ct At valsR RS t bf nf cf k fs fa fb us wy jN := by
 match jN, hGG, haG with
 | 0, hGG, haG =>
   exact (haG 61 (by simp [BsTU])).trans hGG
 | 1, hGG, haG =>
   obtain ⟨xG0, eG, fG0, fG1⟩ := hGG
   exact ⟨xG0, (haG 62 (by simp [BsTU])).trans eG, fG0, fG1.ext hbG⟩
 | 2, hGG, haG =>
   exact (haG 63 (by simp [BsTU])).trans hGG
 | 3, hGG, haG =>
   exact (haG 64 (by simp [BsTU])).trans hGG
 | 4, hGG, haG =>
   exact (haG 65 (by simp [BsTU])).trans hGG
 | 5, hGG, haG =>
   exact (haG 66 (by simp [BsTU])).trans hGG
 | 6, hGG, haG =>
   obtain ⟨xG0, xG1, eG, fG0⟩ := hGG
   exact ⟨xG0, xG1, (haG 67 (by simp [BsTU])).trans eG, own_ext fG0 hbG⟩
 | 7, hGG, haG =>
   exact (haG 68 (by simp [BsTU])).trans hGG
 | 8, hGG, haG =>
   exact (haG 69 (by simp [BsTU])).trans hGG
 | 9, hGG, haG =>
   exact (haG 70 (by simp [BsTU])).trans hGG
 | 10, hGG, haG =>
   exact (haG 71 (by simp [BsTU])).trans hGG
 | 11, hGG, haG =>
   obtain ⟨xG0, eG, fG0, fG1⟩ := hGG
   exact ⟨xG0, (haG 72 (by simp [BsTU])).trans eG, fG0, fG1.ext hbG⟩
 | 12, hGG, haG =>
   obtain ⟨xG0, xG1, eG, fG0⟩ := hGG
   exact ⟨xG0, xG1, (haG 73 (by simp [BsTU])).trans eG, own_ext fG0 hbG⟩
 | 13, hGG, haG =>
   obtain ⟨xG0, xG1, xG2, eG, fG0, fG1, fG2⟩ := hGG
   exact ⟨xG0, xG1, xG2, (haG 74 (by simp [BsTU])).trans eG, fG0, fG1.ext hbG, own_ext fG2 hbG⟩
 | 14, hGG, haG =>
   obtain ⟨xG0, xG1, xG2, xG3, eG, fG0, fG1, fG2, fG3, fG4, fG5, fG6, fG7⟩ := hGG
   exact ⟨xG0, xG1, xG2, xG3, (haG 75 (by simp [BsTU])).trans eG, own_ext fG0 hbG, own_ext fG1 hbG, Tgs.ext fG2 hbG, own_ext fG3 hbG, Tgs.ext fG4 hbG, own_ext fG5 hbG, fG6.ext hbG, fG7⟩
 | 15, hGG, haG =>
   obtain ⟨xG0, xG1, xG2, xG3, eG, fG0, fG1, fG2, fG3, fG4, fG5, fG6, fG7⟩ := hGG
   exact ⟨xG0, xG1, xG2, xG3, (haG 7 (by simp [BsTU])).trans eG, own_ext fG0 hbG, own_ext fG1 hbG, Tgs.ext fG2 hbG, own_ext fG3 hbG, Tgs.ext fG4 hbG, own_ext fG5 hbG, fG6.ext hbG, fG7⟩
 | jN + 16, _, _ => trivial
theorem BsT_6 {S g : Nat} {S0 B0 : Nat} {u lo : Int} {A : Option Addr} {N c : Nat} {Ao : Option Addr} {no co : Nat} {vals : List Value} {LL : List (List R2)} {br nr cr i r ct : Nat} {At : Option Addr} {valsR : List Value} {RS : List (List R2)} {t : List R2} {bf nf cf k : Nat} {fs : List R2} {fa fb : Int} (hgS : True) {vs us : Nat → Value} {wx wy : World} {jN : Nat} (hneG : jN ≠ 6 ∧ jN ≠ 14 ∧ jN ≠ 15 ∧ jN ≠ 1 ∧ jN ≠ 12 ∧ jN ≠ 13) (hGG : BsT S g S0 B0 u lo A N c Ao no co vals LL br nr cr i r ct At valsR RS t bf nf cf k fs fa fb vs wx jN) (haG : ∀ d ∈ BsTU jN, us d = vs d) (hbG : ∃ bz : Nat, Blk wx bz 86 #[] ∧ S0 ≤ bz ∧ wx.grownBy wy (some bz)) : BsT S g S0 B0 u lo A N c Ao no co vals LL br nr cr i r ct At valsR RS t bf nf cf k fs fa fb us wy jN := by
 obtain ⟨bz, hz, _, hg⟩ := hbG
 match jN, hGG, haG, hneG with
 | 0, hGG, haG, hneG =>
   exact (haG 61 (by simp [BsTU])).trans hGG
 | 1, hGG, haG, hneG =>
   exact absurd hneG (by decide)
 | 2, hGG, haG, hneG =>
   exact (haG 63 (by simp [BsTU])).trans hGG
 | 3, hGG, haG, hneG =>
   exact (haG 64 (by simp [BsTU])).trans hGG
 | 4, hGG, haG, hneG =>
   exact (haG 65 (by simp [BsTU])).trans hGG
 | 5, hGG, haG, hneG =>
   exact (haG 66 (by simp [BsTU])).trans hGG
 | 6, hGG, haG, hneG =>
   exact absurd hneG (by decide)
 | 7, hGG, haG, hneG =>
   exact (haG 68 (by simp [BsTU])).trans hGG
 | 8, hGG, haG, hneG =>
   exact (haG 69 (by simp [BsTU])).trans hGG
 | 9, hGG, haG, hneG =>
   exact (haG 70 (by simp [BsTU])).trans hGG
 | 10, hGG, haG, hneG =>
   exact (haG 71 (by simp [BsTU])).trans hGG
 | 11, hGG, haG, hneG =>
   obtain ⟨xG0, eG, fG0, fG1⟩ := hGG
   exact ⟨xG0, (haG 72 (by simp [BsTU])).trans eG, fG0, fG1.grownF hg (blk_sz_ne fG1 hz (by simp))⟩
 | 12, hGG, haG, hneG =>
   exact absurd hneG (by decide)
 | 13, hGG, haG, hneG =>
   exact absurd hneG (by decide)
 | 14, hGG, haG, hneG =>
   exact absurd hneG (by decide)
 | 15, hGG, haG, hneG =>
   exact absurd hneG (by decide)
 | jN + 16, _, _, _ => trivial
theorem BsT_12 {S g : Nat} {S0 B0 : Nat} {u lo : Int} {A : Option Addr} {N c : Nat} {Ao : Option Addr} {no co : Nat} {vals : List Value} {LL : List (List R2)} {br nr cr i r ct : Nat} {At : Option Addr} {valsR : List Value} {RS : List (List R2)} {t : List R2} {bf nf cf k : Nat} {fs : List R2} {fa fb : Int} (hgS : True) {vs us : Nat → Value} {wx wy : World} {jN : Nat} (hneG : jN ≠ 12 ∧ jN ≠ 14 ∧ jN ≠ 15 ∧ jN ≠ 1 ∧ jN ≠ 6 ∧ jN ≠ 11 ∧ jN ≠ 13) (hGG : BsT S g S0 B0 u lo A N c Ao no co vals LL br nr cr i r ct At valsR RS t bf nf cf k fs fa fb vs wx jN) (haG : ∀ d ∈ BsTU jN, us d = vs d) (hbG : ∃ (Az : Option Addr) (nz cz : Nat) (xz : List Value), wx.ownsRow S0 86 2 (.slice Az nz cz) nz xz ∧ wx.grownBy wy (Value.ownBlock (.slice Az nz cz))) : BsT S g S0 B0 u lo A N c Ao no co vals LL br nr cr i r ct At valsR RS t bf nf cf k fs fa fb us wy jN := by
 obtain ⟨Az, nz, cz, xz, ho, hg⟩ := hbG
 match jN, hGG, haG, hneG with
 | 0, hGG, haG, hneG =>
   exact (haG 61 (by simp [BsTU])).trans hGG
 | 1, hGG, haG, hneG =>
   exact absurd hneG (by decide)
 | 2, hGG, haG, hneG =>
   exact (haG 63 (by simp [BsTU])).trans hGG
 | 3, hGG, haG, hneG =>
   exact (haG 64 (by simp [BsTU])).trans hGG
 | 4, hGG, haG, hneG =>
   exact (haG 65 (by simp [BsTU])).trans hGG
 | 5, hGG, haG, hneG =>
   exact (haG 66 (by simp [BsTU])).trans hGG
 | 6, hGG, haG, hneG =>
   exact absurd hneG (by decide)
 | 7, hGG, haG, hneG =>
   exact (haG 68 (by simp [BsTU])).trans hGG
 | 8, hGG, haG, hneG =>
   exact (haG 69 (by simp [BsTU])).trans hGG
 | 9, hGG, haG, hneG =>
   exact (haG 70 (by simp [BsTU])).trans hGG
 | 10, hGG, haG, hneG =>
   exact (haG 71 (by simp [BsTU])).trans hGG
 | 11, hGG, haG, hneG =>
   exact absurd hneG (by decide)
 | 12, hGG, haG, hneG =>
   exact absurd hneG (by decide)
 | 13, hGG, haG, hneG =>
   exact absurd hneG (by decide)
 | 14, hGG, haG, hneG =>
   exact absurd hneG (by decide)
 | 15, hGG, haG, hneG =>
   exact absurd hneG (by decide)
 | jN + 16, _, _, _ => trivial
theorem BsT_14 {S g : Nat} {S0 B0 : Nat} {u lo : Int} {A : Option Addr} {N c : Nat} {Ao : Option Addr} {no co : Nat} {vals : List Value} {LL : List (List R2)} {br nr cr i r ct : Nat} {At : Option Addr} {valsR : List Value} {RS : List (List R2)} {t : List R2} {bf nf cf k : Nat} {fs : List R2} {fa fb : Int} (hgS : True) {vs us : Nat → Value} {wx wy : World} {jN : Nat} (hneG : jN ≠ 14 ∧ jN ≠ 15 ∧ jN ≠ 1 ∧ jN ≠ 6 ∧ jN ≠ 11 ∧ jN ≠ 12 ∧ jN ≠ 13) (hGG : BsT S g S0 B0 u lo A N c Ao no co vals LL br nr cr i r ct At valsR RS t bf nf cf k fs fa fb vs wx jN) (haG : ∀ d ∈ BsTU jN, us d = vs d) (hbG : wx.grownBy wy (Value.ownBlock (.slice Ao no co))) : BsT S g S0 B0 u lo A N c Ao no co vals LL br nr cr i r ct At valsR RS t bf nf cf k fs fa fb us wy jN := by
 match jN, hGG, haG, hneG with
 | 0, hGG, haG, hneG =>
   exact (haG 61 (by simp [BsTU])).trans hGG
 | 1, hGG, haG, hneG =>
   exact absurd hneG (by decide)
 | 2, hGG, haG, hneG =>
   exact (haG 63 (by simp [BsTU])).trans hGG
 | 3, hGG, haG, hneG =>
   exact (haG 64 (by simp [BsTU])).trans hGG
 | 4, hGG, haG, hneG =>
   exact (haG 65 (by simp [BsTU])).trans hGG
 | 5, hGG, haG, hneG =>
   exact (haG 66 (by simp [BsTU])).trans hGG
 | 6, hGG, haG, hneG =>
   exact absurd hneG (by decide)
 | 7, hGG, haG, hneG =>
   exact (haG 68 (by simp [BsTU])).trans hGG
 | 8, hGG, haG, hneG =>
   exact (haG 69 (by simp [BsTU])).trans hGG
 | 9, hGG, haG, hneG =>
   exact (haG 70 (by simp [BsTU])).trans hGG
 | 10, hGG, haG, hneG =>
   exact (haG 71 (by simp [BsTU])).trans hGG
 | 11, hGG, haG, hneG =>
   exact absurd hneG (by decide)
 | 12, hGG, haG, hneG =>
   exact absurd hneG (by decide)
 | 13, hGG, haG, hneG =>
   exact absurd hneG (by decide)
 | 14, hGG, haG, hneG =>
   exact absurd hneG (by decide)
 | 15, hGG, haG, hneG =>
   exact absurd hneG (by decide)
 | jN + 16, _, _, _ => trivial
def BsTP (j i : Nat) : Bool := (j == 14 && i == 6) || (j == 14 && i == 12) || (j == 15 && i == 6) || (j == 15 && i == 12) || (j == 15 && i == 14) || (j == 1 && i == 6) || (j == 1 && i == 12) || (j == 6 && i == 12) || (j == 11 && i == 12) || (j == 12 && i == 6) || (j == 13 && i == 6) || (j == 13 && i == 12) || (j == 1 && i == 14) || (j == 6 && i == 14) || (j == 11 && i == 14) || (j == 12 && i == 14) || (j == 13 && i == 14)
theorem BsT_keep {S g : Nat} {S0 B0 : Nat} {u lo : Int} {A : Option Addr} {N c : Nat} {Ao : Option Addr} {no co : Nat} {vals : List Value} {LL : List (List R2)} {br nr cr i r ct : Nat} {At : Option Addr} {valsR : List Value} {RS : List (List R2)} {t : List R2} {bf nf cf k : Nat} {fs : List R2} {fa fb : Int} (hgS : True) {vs us : Nat → Value} {wx wy : World} {iN jN : Nat} (hneG : iN ≠ jN) (hdpG : BsTP jN iN = false) (hGG : BsT S g S0 B0 u lo A N c Ao no co vals LL br nr cr i r ct At valsR RS t bf nf cf k fs fa fb vs wx jN) (haG : ∀ d ∈ BsTU jN, us d = vs d) (hbG : BsTR g S0 B0 u lo A N c Ao no co vals LL br nr cr i r ct At valsR RS t bf nf cf k fs fa fb iN wx wy) : BsT S g S0 B0 u lo A N c Ao no co vals LL br nr cr i r ct At valsR RS t bf nf cf k fs fa fb us wy jN := by
 unfold BsTR at hbG
 by_cases h6 : iN = 6
 · rw [if_pos h6] at hbG
   exact BsT_6 hgS ⟨by omega, (fun e => by subst e; subst h6; cases hdpG), (fun e => by subst e; subst h6; cases hdpG), (fun e => by subst e; subst h6; cases hdpG), (fun e => by subst e; subst h6; cases hdpG), (fun e => by subst e; subst h6; cases hdpG)⟩ hGG haG hbG
 rw [if_neg h6] at hbG
 by_cases h12 : iN = 12
 · rw [if_pos h12] at hbG
   exact BsT_12 hgS ⟨by omega, (fun e => by subst e; subst h12; cases hdpG), (fun e => by subst e; subst h12; cases hdpG), (fun e => by subst e; subst h12; cases hdpG), (fun e => by subst e; subst h12; cases hdpG), (fun e => by subst e; subst h12; cases hdpG), (fun e => by subst e; subst h12; cases hdpG)⟩ hGG haG hbG
 rw [if_neg h12] at hbG
 by_cases h14 : iN = 14
 · rw [if_pos h14] at hbG
   exact BsT_14 hgS ⟨by omega, (fun e => by subst e; subst h14; cases hdpG), (fun e => by subst e; subst h14; cases hdpG), (fun e => by subst e; subst h14; cases hdpG), (fun e => by subst e; subst h14; cases hdpG), (fun e => by subst e; subst h14; cases hdpG), (fun e => by subst e; subst h14; cases hdpG)⟩ hGG haG hbG
 rw [if_neg h14] at hbG
 exact BsT_gr hgS hGG haG hbG
set_option maxRecDepth 100000 in
set_option maxHeartbeats 16000000 in
theorem l13Targets_any (u lo : Int) (A : Option Addr) (N c : Nat) (hu : 0 ≤ u ∧ u ≤ 2) : ∀ (r : Nat) (n : Int) (w : World), r ≤ 8 → 0 ≤ n → n ≤ 9223372036854775807 →
 Calls Try.prog 77 #[frV u lo A N c, .int .i64 (r : Int), .int .i64 n] w (RetTg w r (tgP u lo r n)) := by
 obtain ⟨i0, hinf, hz0, hz1, hz2⟩ := info_parts info_rod
 obtain ⟨j0, jinf, jz0, jz1, jz2⟩ := info_parts info_rows
 intro r
 induction r with
 | zero =>
   intro n w hr h0 h63
   by_cases hn : n = 0
   · subst hn
     have hb := Lib.hid (ext_alloc (ext_alloc (ext_alloc (ext_refl w) (.cells #[.int .i64 u, .int .i64 lo, .slice A N c] 26)) (.cells #[] 86)) (.cells #[.slice (some ⟨w.heap.size + 1, 0, none⟩) 0 0] 24))
     have ho := Lib.hid (own_blk1 (Blk.born ((w.alloc (.cells #[.int .i64 u, .int .i64 lo, .slice A N c] 26)).alloc (.cells #[] 86)) #[.slice (some ⟨w.heap.size + 1, 0, none⟩) 0 0] 24 (H := w.heap.size + 1 + 1) (by simp)) (B := w.heap.size) (by omega))
     have ht := Lib.hid ((own_lit_at (w.alloc (.cells #[.int .i64 u, .int .i64 lo, .slice A N c] 26)) 86 2 (H := w.heap.size + 1) (B := w.heap.size) (by simp) (by omega)).alloc (.cells #[.slice (some ⟨w.heap.size + 1, 0, none⟩) 0 0] 24))
     go_enter Try.func77, Try.ntmps77
     go_wp2
     go_ret
     exact ⟨_, _, _, rfl, ho.out, (Tgs.nil _ _ _).snoc (L := []) rfl ht.out, hb.out⟩
   · have hb := Lib.hid (ext_alloc (ext_alloc (ext_refl w) (.cells #[.int .i64 u, .int .i64 lo, .slice A N c] 26)) (.cells #[] 24))
     have ho := Lib.hid (own_lit_at (w.alloc (.cells #[.int .i64 u, .int .i64 lo, .slice A N c] 26)) 24 1 (H := w.heap.size + 1) (B := w.heap.size) (by simp) (by omega))
     have hn0 : (n == 0) = false := by simpa using hn
     have he : tgP u lo 0 n = [] := by rw [tgP, if_neg hn]
     rw [he]
     clear he
     go_enter Try.func77, Try.ntmps77
     go_wp2
     go_ret
     exact ⟨_, _, _, rfl, ho.out, Tgs.nil _ _ _, hb.out⟩
 | succ r ih =>
   intro n w hr h0 h63
   have IH := Lib.hid ih
   obtain ⟨W1, hW1⟩ : ∃ y : World, y = (w.alloc (.cells #[.int .i64 u, .int .i64 lo, .slice A N c] 26)).alloc (.cells #[] 24) := ⟨_, rfl⟩
   have BF := Lib.hid (show Blk W1 w.heap.size 26 #[.int .i64 u, .int .i64 lo, .slice A N c] by rw [hW1]; exact (Blk.born w #[.int .i64 u, .int .i64 lo, .slice A N c] 26 (H := w.heap.size) rfl).al _)
   have HO := Lib.hid (show W1.ownsRow w.heap.size 24 1 (.slice (some ⟨w.heap.size + 1, 0, none⟩) 0 0) 0 [] by rw [hW1]; exact own_lit_at _ 24 1 (H := w.heap.size + 1) (by simp) (by omega))
   have hb := Lib.hid (show Below w.heap.size w W1 by rw [hW1]; exact ext_alloc (ext_alloc (ext_refl w) _) _)
   obtain ⟨R, hR⟩ : ∃ R, r + 1 = R := ⟨_, rfl⟩
   rw [hR]
   have HRR := Lib.hid hR.symm
   have hrI : ((R : Int) == 0) = false := by simp; omega
   have hrI2 : ¬ (R : Int) = 0 := by omega
   have hrz : IntKind.i64.wrap ((R : Int) - 1) = (r : Int) := by rw [IntKind.wrap_i64]; omega
   have hr7 : r ≤ 7 := by omega
   have htm : n.tmod 10 = valT n 0 := by unfold valT; rw [Int.tmod_eq_emod_of_nonneg h0]; simp
   clear ih hR hr
   go_enter Try.func77, Try.ntmps77
   go_upto_region 6 with fail
   rw [← hW1]
   clear hW1
   go_wp2
   go_loopw [7, 8] (fun ov vv wr => ∃ (j : Nat) (Ax : Option Addr) (cx : Nat) (vals : List Value) (LL : List (List R2)), j ≤ 2 ∧ vv = .int .i64 (valT n j) ∧ ov = .slice Ax LL.length cx ∧ LL.length ≤ 839808 * j ∧ Hid (tgTo u lo (tgP u lo r) n j = LL) ∧ Hid (wr.ownsRow w.heap.size 24 1 (.slice Ax LL.length cx) LL.length vals) ∧ Hid (Tgs wr w.heap.size (r + 1) vals LL) ∧ Hid (Blk wr w.heap.size 26 #[.int .i64 u, .int .i64 lo, .slice A N c]) ∧ Hid (Below w.heap.size w wr)) (fun _ v _ => (100 - intOf v).toNat)
   case atStart => exact ⟨0, some ⟨w.heap.size + 1, 0, none⟩, 0, [], [], Nat.zero_le _, rfl, rfl, Nat.zero_le _, Lib.hid rfl, HO, Lib.hid (Tgs.nil _ _ _), BF, hb⟩
   case round =>
    clear HO BF hb htm
    obtain ⟨j, Ax, cx, vals, LL, hj, rfl, rfl, hLL, HX, HO, HTG, BF, hb⟩ := hrel
    obtain ⟨W, hW⟩ : ∃ y : World, y = wr := ⟨_, rfl⟩
    subst hW
    have lF := BF.out.lt
    cases hv : valB n j
    · have HE := Lib.hid (show tgP u lo R n = LL by rw [HRR.out, tgP, tgTo_stop h0 hj hv, HX.out])
      have HRR2 := HRR.out
      rw [← HRR2] at HTG
      clear HRR2
      unfold valB at hv
      rw [Bool.and_eq_false_iff] at hv
      rcases hv with hv | hv
      · have hv1 : ¬ valT n j ≤ 15 := by simpa using hv
        clear hv
        go_wp2
        go_ret
        rw [HE.out]
        exact ⟨Ax, cx, vals, rfl, HO.out, HTG.out, hb.out⟩
      · by_cases hv1 : valT n j ≤ 15
        · have hv2 : ¬ valT n j ≤ n := by simpa using hv
          clear hv
          go_wp2
          go_ret
          rw [HE.out]
          exact ⟨Ax, cx, vals, rfl, HO.out, HTG.out, hb.out⟩
        · clear hv
          go_wp2
          go_ret
          rw [HE.out]
          exact ⟨Ax, cx, vals, rfl, HO.out, HTG.out, hb.out⟩
    · have hvv := hv
      unfold valB at hvv
      rw [Bool.and_eq_true, decide_eq_true_eq, decide_eq_true_eq] at hvv
      obtain ⟨hv1, hv2⟩ := hvv
      have hvd : valT n j = n % 10 + 10 * (j : Int) := rfl
      have hj1 : j ≤ 1 := by omega
      obtain ⟨v, hvn⟩ : ∃ o9, valT n j = o9 := ⟨_, rfl⟩
      obtain ⟨q, hq⟩ : ∃ o9, (n - v) / 10 = o9 := ⟨_, rfl⟩
      rw [hvn] at hv1 hv2 hvd ⊢
      have hnv : wrap64 (n - v) = n - v := by unfold wrap64; omega
      have htd : (n - v).tdiv 10 = q := by rw [Int.tdiv_eq_ediv_of_nonneg (by omega)]; exact hq
      have hq0 : 0 ≤ q := by omega
      have hq63 : q ≤ 9223372036854775807 := by omega
      have hwq : wrap64 q = q := by unfold wrap64; omega
      have hv10 : IntKind.i64.wrap (v + 10) = v + 10 := by rw [IntKind.wrap_i64]; omega
      have hvs : valT n (j + 1) = v + 10 := by unfold valT; omega
      have hvm : (100 - (v + 10)).toNat < (100 - v).toNat := by omega
      have HSTEP := Lib.hid (show tgTo u lo (tgP u lo r) n (j + 1) = LL ++ prodT (tgP u lo r q) (forms u lo v) by rw [tgTo, tgSt, hv, if_pos rfl, hvn, hq, HX.out])
      have hv0 : 0 ≤ v := by omega
      have hrl : (tgP u lo r q).length ≤ 279936 := Nat.le_trans (tgP_len hu r q) (Nat.le_trans (Nat.pow_le_pow_right (by omega) hr7) (by decide))
      have HFO := Lib.hid (fun (w : World) => l13Forms_any u lo v w (by omega) (by omega))
      have hfl : (forms u lo v).length ≤ 3 := by have := formsN_len lo v (u + 1).toNat; unfold forms; omega
      obtain ⟨fs, hfs⟩ : ∃ o9, forms u lo v = o9 := ⟨_, rfl⟩
      rw [hfs] at HFO HSTEP hfl
      unfold RetSlice at HFO
      obtain ⟨f0, f1, f2⟩ := BF.out.q3
      clear hvn hv hvd hfs
      go_wp2_with fail
      refine (HFO.out _).mono ?_
      rintro e w4 ⟨Af, cf, rfl, hof, hb4⟩
      have HO4 := Lib.hid (own_ext HO.out hb4)
      have HTG4 := Lib.hid (HTG.out.ext hb4)
      have BF4 := Lib.hid (BF.out.ext hb4)
      have HF4 := Lib.hid (own_base (base' := w.heap.size) hof hb.out.size)
      have hbb4 := Lib.hid (ext_trans hb.out hb4)
      clear hof hb4 HO HTG BF hb f0 f1 f2 lF HFO
      by_cases hz : fs.length = 0
      · have hzI : ((fs.length : Int) == 0) = true := by simp [hz]
        obtain rfl : fs = [] := List.eq_nil_of_length_eq_zero hz
        rw [prodT_none, List.append_nil] at HSTEP
        clear hz hq
        go_wp2
        go_roundw
        case rel => exact ⟨j + 1, Ax, cx, vals, LL, by omega, by rw [hvs], rfl, by omega, HSTEP, HO4, HTG4, BF4, hbb4⟩
        case measure => simp only [intOf]; exact hvm
      · have hzI : ((fs.length : Int) == 0) = false := by simpa using hz
        have IHq := Lib.hid (fun (w : World) => IH.out q w (by omega) hq0 hq63)
        have HTM := Lib.hid (fun t ht => (tgP_mem (u := u) (lo := lo) r q t ht).1)
        obtain ⟨RS, hRS⟩ : ∃ o9, tgP u lo r q = o9 := ⟨_, rfl⟩
        rw [hRS] at IHq HSTEP hrl HTM
        unfold RetTg at IHq
        obtain ⟨f0, f1, f2⟩ := BF4.out.q3
        have lF := BF4.out.lt
        clear hRS hz hq
        go_wp2_with fail
        refine (IHq.out _).mono ?_
        rintro e w5 ⟨Ar, cr, valsR, rfl, hor, htr, hb5⟩
        have HO5 := Lib.hid (own_ext HO4.out hb5)
        have HTG5 := Lib.hid (HTG4.out.ext hb5)
        have BF5 := Lib.hid (BF4.out.ext hb5)
        have HF5 := Lib.hid (own_ext HF4.out hb5)
        have hbb5 := Lib.hid (ext_trans hbb4.out hb5)
        have HR5 := Lib.hid (own_base (base' := w.heap.size) hor hbb4.out.size)
        have HRT5 := Lib.hid (htr.base hbb4.out.size)
        have DJ5 := Lib.hid (dj_new HO4.out hor)
        clear hor htr hb5 HO4 HTG4 BF4 HF4 hbb4 f0 f1 f2 lF IHq
        go_wp2
        go_loopw [7, 11] (fun ov iv wr => ∃ (i : Nat) (Ay : Option Addr) (cy : Nat) (vs : List Value) (MM : List (List R2)), i ≤ RS.length ∧ iv = .int .i64 (i : Int) ∧ ov = .slice Ay MM.length cy ∧ MM.length ≤ 839808 * j + 3 * i ∧ Hid (LL ++ prodT (RS.take i) fs = MM) ∧ Hid (wr.ownsRow w.heap.size 24 1 (.slice Ay MM.length cy) MM.length vs) ∧ Hid (Tgs wr w.heap.size (r + 1) vs MM) ∧ Hid (wr.ownsRow w.heap.size 24 1 (.slice Ar RS.length cr) RS.length valsR) ∧ Hid (Tgs wr w.heap.size r valsR RS) ∧ Hid (wr.ownsRow w.heap.size 86 2 (.slice Af fs.length cf) fs.length (rowsV2 fs)) ∧ Hid (Blk wr w.heap.size 26 #[.int .i64 u, .int .i64 lo, .slice A N c]) ∧ Hid (Value.ownBlock (.slice Ar RS.length cr) = none ∨ Value.ownBlock (.slice Ar RS.length cr) ≠ Value.ownBlock (.slice Ay MM.length cy)) ∧ Hid (Below w.heap.size w wr)) (fun _ iv _ => RS.length - (intOf iv).toNat)
        case atStart => exact ⟨0, Ax, cx, vals, LL, Nat.zero_le _, rfl, rfl, by omega, Lib.hid (by rw [List.take_zero, prodT_nil, List.append_nil]), HO5, HTG5, HR5, HRT5, HF5, BF5, DJ5, hbb5⟩
        case round =>
         clear HO5 HTG5 HR5 HRT5 HF5 BF5 DJ5 hbb5
         obtain ⟨i, Ay, cy, vs, MM, hi9, rfl, rfl, hMM, HM, HO, HTG, HR, HRT, HFS, BF, DJ, hb⟩ := hrel
         obtain ⟨U, hU⟩ : ∃ y : World, y = wr := ⟨_, rfl⟩
         subst hU
         by_cases hlt : i < RS.length
         · obtain ⟨t, ht⟩ := list_split (l := RS) (k := i) hlt
           have HPT := Lib.hid (prodT_take (fs := fs) ht)
           have hi1 : (i : Int) < (RS.length : Int) := by omega
           go_wp2
           go_loopw [7, 12] (fun ov kv wr => ∃ (k : Nat) (Az : Option Addr) (cz : Nat) (us : List Value) (PP : List (List R2)), k ≤ fs.length ∧ kv = .int .i64 (k : Int) ∧ ov = .slice Az PP.length cz ∧ PP.length ≤ 839808 * j + 3 * i + k ∧ Hid (MM ++ (fs.take k).map (fun f => t ++ [f]) = PP) ∧ Hid (wr.ownsRow w.heap.size 24 1 (.slice Az PP.length cz) PP.length us) ∧ Hid (Tgs wr w.heap.size (r + 1) us PP) ∧ Hid (wr.ownsRow w.heap.size 24 1 (.slice Ar RS.length cr) RS.length valsR) ∧ Hid (Tgs wr w.heap.size r valsR RS) ∧ Hid (wr.ownsRow w.heap.size 86 2 (.slice Af fs.length cf) fs.length (rowsV2 fs)) ∧ Hid (Blk wr w.heap.size 26 #[.int .i64 u, .int .i64 lo, .slice A N c]) ∧ Hid (Value.ownBlock (.slice Ar RS.length cr) = none ∨ Value.ownBlock (.slice Ar RS.length cr) ≠ Value.ownBlock (.slice Az PP.length cz)) ∧ Hid (Below w.heap.size w wr)) (fun _ kv _ => fs.length - (intOf kv).toNat)
           case atStart => exact ⟨0, Ay, cy, vs, MM, Nat.zero_le _, rfl, rfl, by omega, Lib.hid (by rw [List.take_zero, List.map_nil, List.append_nil]), HO, HTG, HR, HRT, HFS, BF, DJ, hb⟩
           case round =>
            clear HO HTG HR HRT HFS BF DJ hb
            obtain ⟨k, Az, cz, us, PP, hk9, rfl, rfl, hPP, HP, HO, HTG, HR, HRT, HFS, BF, DJ, hb⟩ := hrel
            obtain ⟨V, hV⟩ : ∃ y : World, y = wr := ⟨_, rfl⟩
            subst hV
            by_cases hkt : k < fs.length
            · obtain ⟨f, hf⟩ := list_split (l := fs) (k := k) hkt
              obtain ⟨fa, fb⟩ := f
              obtain ⟨br, cr', hB, hLw, hLl⟩ := HR.out.form (by omega)
              injection hB with hB _ hB2
              subst hB hB2
              obtain ⟨bf, cf', hB, hFw, hFl⟩ := HFS.out.form (by omega)
              injection hB with hB _ hB2
              subst hB hB2
              obtain ⟨htl, At, ct, hvr, hto⟩ := HRT.out.2 i t ht
              have HT2 := Lib.hid hto
              have hc1 : V.cell? ⟨br, i, none⟩ = some (.slice At r ct) := by rw [HR.out.cellAt i (by omega)]; exact hvr
              obtain ⟨bf2, of2, hA9, _, hc2, hc3⟩ := rows_at2 (Reads.of_own HFS.out) hf
              injection hA9 with hA9
              injection hA9 with hA1 hA2
              subst hA1 hA2
              rw [Nat.zero_add] at hc2 hc3
              dsimp only at hc2 hc3
              have hk1 : (k : Int) < (fs.length : Int) := by omega
              have hk0 : (0 : Int) ≤ (k : Int) := by omega
              have hi0 : (0 : Int) ≤ (i : Int) := by omega
              have m1 : 0 + r ≤ maxLen := by unfold maxLen; omega
              have m2 : (0 + r) * 16 ≤ 140737488355328 := by omega
              have m3 : r + 1 ≤ maxLen := by unfold maxLen; omega
              have m4 : (r + 1) * 16 ≤ 140737488355328 := by omega
              have m5 : PP.length + 1 ≤ maxLen := by unfold maxLen; omega
              have m6 : (PP.length + 1) * 24 ≤ 140737488355328 := by omega
              have HO2 := HO
              have HTG2 := HTG
              have HR2 := HR
              have HRT2 := HRT
              have HFS2 := HFS
              have BF2 := BF
              have HW0 := hb
              have HP2 := Lib.hid (show MM ++ (fs.take (k + 1)).map (fun f => t ++ [f]) = PP ++ [t ++ [(⟨fa, fb⟩ : R2)]] by rw [List.take_add_one, hf, List.map_append, ← List.append_assoc, HP.out]; rfl)
              have htl1 : (t ++ [(⟨fa, fb⟩ : R2)]).length = r + 1 := by rw [List.length_append, htl]; rfl
              have HTL := Lib.hid htl1
              clear hf hvr hto htl htl1 HO HTG HR HRT HFS BF hb HP
              go_upto_region 18 with fail
              refine wp_region_n (by kernel_rfl) (by kernel_rfl) [7, 61, 62, 63, 64, 65, 66, 67, 68, 69, 70, 71, 72, 73, 74, 75] BsTU (by kernel_rfl) (by decide) 77 (by kernel_rfl) (by simp) (fun ra0 => ra0.eval (.tmp 7) = .slice Az PP.length cz ∧ ra0.eval (.tmp 9) = .slice (some ⟨bf, 0, none⟩) fs.length cf ∧ ra0.eval (.tmp 10) = .slice (some ⟨br, 0, none⟩) RS.length cr ∧ ra0.eval (.tmp 11) = .int .i64 (i : Int) ∧ ra0.eval (.tmp 12) = .int .i64 (k : Int)) ⟨by kernel_rfl, by kernel_rfl, by kernel_rfl, by kernel_rfl, by kernel_rfl⟩ BsTP (fun j => j == 15) (by kernel_rfl) (IExt w V 14 20 (fun wx => True)) (BsTR 0 V.heap.size w.heap.size u lo A N c Az PP.length cz us PP br RS.length cr i r ct At valsR RS t bf fs.length cf k fs fa fb) (fun jN vs wx => BsT V.heap.size 0 V.heap.size w.heap.size u lo A N c Az PP.length cz us PP br RS.length cr i r ct At valsR RS t bf fs.length cf k fs fa fb vs wx jN) ⟨(HW0.out).drew, Nat.le_refl _, fun _ => (ext_refl _).drew, fun _ => trivial⟩ (fun _ _ _ _ _ _ h0 hd h1 h2 h3 => BsT_keep trivial h0 hd h1 h2 h3) ?_ ?_
              · intro ra0 hE ri ro ho Qx vs wx rb KX kk rL hI hkk hnl hLt hcl hdep rb0 rbk hini HK
                repeat (rename_i hz9; clear hz9)
                obtain ⟨rq7, rq9, rq10, rq11, rq12⟩ := hE
                have hi : ri < 16 := by
                 rcases Nat.lt_or_ge ri 16 with h | h
                 · exact h
                 · rw [Array.getElem?_eq_none (by simpa using h)] at ho; cases ho
                have hkk : kk < 16 := by simpa using hkk
                obtain ⟨hGw, hsz, hpre, hBx⟩ := hI
                have HQ : ∀ w', Below wx.heap.size wx w' → IExt w V 14 20 (fun wx => True) (kk + 1) (fun j => j = ri ∨ rL j) w' := fun w' h3 => ⟨ext_trans hGw h3, Nat.le_trans hsz h3.size, fun hn => ext_trans (hpre (fun x => hn (.inr x))) h3, fun hn => (fun hB => trivial) (hBx (fun x => hn (.inr x)))⟩
                have HQX := Lib.hid HQ
                have HGW := Lib.hid hGw
                have HPRE := Lib.hid hpre
                have HBX := Lib.hid hBx
                have HCL := Lib.hid hcl
                clear HQ hGw hpre hBx hcl
                rcases (show ri = 0 ∨ ri = 1 ∨ ri = 2 ∨ ri = 3 ∨ ri = 4 ∨ ri = 5 ∨ ri = 6 ∨ ri = 7 ∨ ri = 8 ∨ ri = 9 ∨ ri = 10 ∨ ri = 11 ∨ ri = 12 ∨ ri = 13 ∨ ri = 14 ∨ ri = 15 by omega) with rfl | rfl | rfl | rfl | rfl | rfl | rfl | rfl | rfl | rfl | rfl | rfl | rfl | rfl | rfl | rfl
                · simp only [List.getElem?_toArray, List.getElem?_cons_succ, List.getElem?_cons_zero, Option.some.injEq] at ho
                  subst ho
                  have HKX := Lib.hid HK
                  clear HK
                  have p7 := (hini 7 (by decide) [15] (by kernel_rfl) (fun j9 hj9 h9 => by obtain rfl := List.mem_singleton.1 hj9; exact hnl (HCL.out 15 _ _ rfl h9 (by kernel_rfl)))).trans rq7
                  clear rb0 rbk hdep hini
                  go_simp
                  exact HKX.out _ _ (HQX.out _ (ext_refl _)) (by unfold BsTR; rw [if_neg (by decide)]; rw [if_neg (by decide)]; rw [if_neg (by decide)]; exact ext_refl _) (upd_same _ _ _)
                · simp only [List.getElem?_toArray, List.getElem?_cons_succ, List.getElem?_cons_zero, Option.some.injEq] at ho
                  subst ho
                  have HKX := Lib.hid HK
                  clear HK
                  have hSx : V.heap.size ≤ wx.heap.size := hsz
                  clear rb0 rbk hdep hini
                  go_simp
                  exact HKX.out _ _ (HQX.out _ (ext_alloc (ext_refl _) _)) (by unfold BsTR; rw [if_neg (by decide)]; rw [if_neg (by decide)]; rw [if_neg (by decide)]; exact ext_alloc (ext_refl _) _) ⟨wx.heap.size, upd_same _ _ _, hSx, Blk.born _ _ _ rfl⟩
                · simp only [List.getElem?_toArray, List.getElem?_cons_succ, List.getElem?_cons_zero, Option.some.injEq] at ho
                  subst ho
                  have HKX := Lib.hid HK
                  clear HK
                  have p10 := (rb0 10 (by decide)).trans rq10
                  clear rb0 rbk hdep hini
                  go_simp
                  exact HKX.out _ _ (HQX.out _ (ext_refl _)) (by unfold BsTR; rw [if_neg (by decide)]; rw [if_neg (by decide)]; rw [if_neg (by decide)]; exact ext_refl _) (upd_same _ _ _)
                · simp only [List.getElem?_toArray, List.getElem?_cons_succ, List.getElem?_cons_zero, Option.some.injEq] at ho
                  subst ho
                  have HKX := Lib.hid HK
                  clear HK
                  have p11 := (rb0 11 (by decide)).trans rq11
                  clear rb0 rbk hdep hini
                  go_simp
                  exact HKX.out _ _ (HQX.out _ (ext_refl _)) (by unfold BsTR; rw [if_neg (by decide)]; rw [if_neg (by decide)]; rw [if_neg (by decide)]; exact ext_refl _) (upd_same _ _ _)
                · simp only [List.getElem?_toArray, List.getElem?_cons_succ, List.getElem?_cons_zero, Option.some.injEq] at ho
                  subst ho
                  have HKX := Lib.hid HK
                  clear HK
                  have e2 : vs 63 = .slice (some ⟨br, 0, none⟩) RS.length cr := (hdep 2 (by kernel_rfl)).2
                  have rr2 := (rbk 63 (by decide)).trans e2
                  have E2 := Lib.hid e2
                  clear e2
                  have e3 : vs 64 = .int .i64 (i : Int) := (hdep 3 (by kernel_rfl)).2
                  have rr3 := (rbk 64 (by decide)).trans e3
                  have E3 := Lib.hid e3
                  clear e3
                  clear rb0 rbk hdep hini
                  go_simp
                  exact HKX.out _ _ (HQX.out _ (ext_refl _)) (by unfold BsTR; rw [if_neg (by decide)]; rw [if_neg (by decide)]; rw [if_neg (by decide)]; exact ext_refl _) (upd_same _ _ _)
                · simp only [List.getElem?_toArray, List.getElem?_cons_succ, List.getElem?_cons_zero, Option.some.injEq] at ho
                  subst ho
                  have HKX := Lib.hid HK
                  clear HK
                  have e4 : vs 65 = .pointer (some ⟨br, i, none⟩) := (hdep 4 (by kernel_rfl)).2
                  have rr4 := (rbk 65 (by decide)).trans e4
                  have E4 := Lib.hid e4
                  clear e4
                  have hNL : ¬ rL 14 := fun h => hnl (HCL.out 6 _ 5 rfl (HCL.out 12 _ 6 rfl (HCL.out 13 _ 12 rfl (HCL.out 14 _ 13 rfl h (by kernel_rfl)) (by kernel_rfl)) (by kernel_rfl)) (by kernel_rfl))
                  have HGP := Lib.hid (HPRE.out hNL)
                  have e1 := ext_cell HGP.out hc1
                  have e2 := ext_cell HGP.out hc2
                  have e3 := ext_cell HGP.out hc3
                  clear rb0 rbk hdep hini
                  go_simp
                  exact HKX.out _ _ (HQX.out _ (ext_refl _)) (by unfold BsTR; rw [if_neg (by decide)]; rw [if_neg (by decide)]; rw [if_neg (by decide)]; exact ext_refl _) (upd_same _ _ _)
                · simp only [List.getElem?_toArray, List.getElem?_cons_succ, List.getElem?_cons_zero, Option.some.injEq] at ho
                  subst ho
                  have HKX := Lib.hid HK
                  clear HK
                  obtain ⟨xq, e1, k1_0, k1_1⟩ := (hdep 1 (by kernel_rfl)).2
                  have rr1 := (rbk 62 (by decide)).trans e1
                  have E1 := Lib.hid e1
                  clear e1
                  have K1_1 := Lib.hid k1_1
                  clear k1_1
                  have e5 : vs 66 = .slice At r ct := (hdep 5 (by kernel_rfl)).2
                  have rr5 := (rbk 66 (by decide)).trans e5
                  have E5 := Lib.hid e5
                  clear e5
                  have hNL : ¬ rL 14 := fun h => hnl (HCL.out 12 _ 6 rfl (HCL.out 13 _ 12 rfl (HCL.out 14 _ 13 rfl h (by kernel_rfl)) (by kernel_rfl)) (by kernel_rfl))
                  have HGP := Lib.hid (HPRE.out hNL)
                  have e1 := ext_cell HGP.out hc1
                  have e2 := ext_cell HGP.out hc2
                  have e3 := ext_cell HGP.out hc3
                  have hSx : V.heap.size ≤ wx.heap.size := HGP.out.size
                  have HXR := own_ext HT2.out HGP.out
                  have HOL := Lib.hid (own_empty2 (size := 2) K1_1.out k1_0)
                  have HBZ := Lib.hid K1_1.out
                  clear rb0 rbk hdep hini
                  refine step_appO rfl (.tmp 62) (.tmp 66) 24 rfl V.heap.size 86 i0 _ 2 16 Try.underlying24 hinf hz0 hz1 hz2 rfl (by decide) (.slice (some ⟨xq, 0, none⟩) 0 0) 0 [] ((Array.getD_eq_getD_getElem? ..).trans rr1) HOL.out At r ct (rowsV2 t) ((Array.getD_eq_getD_getElem? ..).trans rr5) w.heap.size HXR (rows2_one _) m1 m2 hSx ?_
                  intro A9 c9 w' hown hgr
                  rw [Nat.zero_add, List.nil_append] at hown
                  rw [Nat.zero_add]
                  have hblk : ∀ q, Value.ownBlock (.slice (some ⟨xq, 0, none⟩) 0 0) = some q → V.heap.size ≤ q := fun q hq => (HOL.out.lt q hq).1
                  have hb9 := Below.grown HGP.out hgr hSx hblk
                  exact HKX.out _ _ ⟨ext_trans HW0.out hb9, Nat.le_trans hsz hgr.size, fun hn => hb9, fun hn => trivial⟩ (by unfold BsTR; rw [if_pos rfl]; exact ⟨xq, HBZ.out, k1_0, hgr⟩) ⟨A9, c9, upd_same _ _ _, hown⟩
                · simp only [List.getElem?_toArray, List.getElem?_cons_succ, List.getElem?_cons_zero, Option.some.injEq] at ho
                  subst ho
                  have HKX := Lib.hid HK
                  clear HK
                  have p9 := (rb0 9 (by decide)).trans rq9
                  clear rb0 rbk hdep hini
                  go_simp
                  exact HKX.out _ _ (HQX.out _ (ext_refl _)) (by unfold BsTR; rw [if_neg (by decide)]; rw [if_neg (by decide)]; rw [if_neg (by decide)]; exact ext_refl _) (upd_same _ _ _)
                · simp only [List.getElem?_toArray, List.getElem?_cons_succ, List.getElem?_cons_zero, Option.some.injEq] at ho
                  subst ho
                  have HKX := Lib.hid HK
                  clear HK
                  have p12 := (rb0 12 (by decide)).trans rq12
                  clear rb0 rbk hdep hini
                  go_simp
                  exact HKX.out _ _ (HQX.out _ (ext_refl _)) (by unfold BsTR; rw [if_neg (by decide)]; rw [if_neg (by decide)]; rw [if_neg (by decide)]; exact ext_refl _) (upd_same _ _ _)
                · simp only [List.getElem?_toArray, List.getElem?_cons_succ, List.getElem?_cons_zero, Option.some.injEq] at ho
                  subst ho
                  have HKX := Lib.hid HK
                  clear HK
                  have e7 : vs 68 = .slice (some ⟨bf, 0, none⟩) fs.length cf := (hdep 7 (by kernel_rfl)).2
                  have rr7 := (rbk 68 (by decide)).trans e7
                  have E7 := Lib.hid e7
                  clear e7
                  have e8 : vs 69 = .int .i64 (k : Int) := (hdep 8 (by kernel_rfl)).2
                  have rr8 := (rbk 69 (by decide)).trans e8
                  have E8 := Lib.hid e8
                  clear e8
                  clear rb0 rbk hdep hini
                  go_simp
                  exact HKX.out _ _ (HQX.out _ (ext_refl _)) (by unfold BsTR; rw [if_neg (by decide)]; rw [if_neg (by decide)]; rw [if_neg (by decide)]; exact ext_refl _) (upd_same _ _ _)
                · simp only [List.getElem?_toArray, List.getElem?_cons_succ, List.getElem?_cons_zero, Option.some.injEq] at ho
                  subst ho
                  have HKX := Lib.hid HK
                  clear HK
                  have e9 : vs 70 = .pointer (some ⟨bf, k * 2, none⟩) := (hdep 9 (by kernel_rfl)).2
                  have rr9 := (rbk 70 (by decide)).trans e9
                  have E9 := Lib.hid e9
                  clear e9
                  have hNL : ¬ rL 14 := fun h => hnl (HCL.out 11 _ 10 rfl (HCL.out 12 _ 11 rfl (HCL.out 13 _ 12 rfl (HCL.out 14 _ 13 rfl h (by kernel_rfl)) (by kernel_rfl)) (by kernel_rfl)) (by kernel_rfl))
                  have HGP := Lib.hid (HPRE.out hNL)
                  have e1 := ext_cell HGP.out hc1
                  have e2 := ext_cell HGP.out hc2
                  have e3 := ext_cell HGP.out hc3
                  clear rb0 rbk hdep hini
                  go_simp
                  exact HKX.out _ _ (HQX.out _ (ext_refl _)) (by unfold BsTR; rw [if_neg (by decide)]; rw [if_neg (by decide)]; rw [if_neg (by decide)]; exact ext_refl _) (upd_same _ _ _)
                · simp only [List.getElem?_toArray, List.getElem?_cons_succ, List.getElem?_cons_zero, Option.some.injEq] at ho
                  subst ho
                  have HKX := Lib.hid HK
                  clear HK
                  have e10 : vs 71 = .agg #[.int .i64 fa, .int .i64 fb] := (hdep 10 (by kernel_rfl)).2
                  have rr10 := (rbk 71 (by decide)).trans e10
                  have E10 := Lib.hid e10
                  clear e10
                  have hSx : V.heap.size ≤ wx.heap.size := hsz
                  clear rb0 rbk hdep hini
                  go_simp
                  exact HKX.out _ _ (HQX.out _ (ext_alloc (ext_refl _) _)) (by unfold BsTR; rw [if_neg (by decide)]; rw [if_neg (by decide)]; rw [if_neg (by decide)]; exact ext_alloc (ext_refl _) _) ⟨wx.heap.size, upd_same _ _ _, hSx, Blk.born _ _ _ rfl⟩
                · simp only [List.getElem?_toArray, List.getElem?_cons_succ, List.getElem?_cons_zero, Option.some.injEq] at ho
                  subst ho
                  have HKX := Lib.hid HK
                  clear HK
                  obtain ⟨A9, c9, e6, k6_0⟩ := (hdep 6 (by kernel_rfl)).2
                  have rr6 := (rbk 67 (by decide)).trans e6
                  have E6 := Lib.hid e6
                  clear e6
                  have K6_0 := Lib.hid k6_0
                  clear k6_0
                  obtain ⟨xq, e11, k11_0, k11_1⟩ := (hdep 11 (by kernel_rfl)).2
                  have rr11 := (rbk 72 (by decide)).trans e11
                  have E11 := Lib.hid e11
                  clear e11
                  have K11_1 := Lib.hid k11_1
                  clear k11_1
                  have hNL : ¬ rL 14 := fun h => hnl (HCL.out 13 _ 12 rfl (HCL.out 14 _ 13 rfl h (by kernel_rfl)) (by kernel_rfl))
                  have HGP := Lib.hid (HPRE.out hNL)
                  have e1 := ext_cell HGP.out hc1
                  have e2 := ext_cell HGP.out hc2
                  have e3 := ext_cell HGP.out hc3
                  have hSx : V.heap.size ≤ wx.heap.size := HGP.out.size
                  have HOL := Lib.hid K6_0.out
                  have HS5 := Lib.hid (own_blk2 K11_1.out k11_0)
                  clear rb0 rbk hdep hini
                  refine step_appO rfl (.tmp 67) (.tmp 72) 24 rfl V.heap.size 86 i0 _ 2 16 Try.underlying24 hinf hz0 hz1 hz2 rfl (by decide) (.slice A9 r c9) r (rowsV2 t) ((Array.getD_eq_getD_getElem? ..).trans rr6) HOL.out (some ⟨xq, 0, none⟩) 1 1 [.int .i64 fa, .int .i64 fb] ((Array.getD_eq_getD_getElem? ..).trans rr11) V.heap.size HS5.out (by intro u hu; rcases List.mem_cons.1 hu with rfl | hu; rfl; rcases List.mem_cons.1 hu with rfl | hu; rfl; cases hu) m3 m4 hSx ?_
                  intro A8 c8 w' hown hgr
                  have hblk : ∀ q, Value.ownBlock (.slice A9 r c9) = some q → V.heap.size ≤ q := fun q hq => (HOL.out.lt q hq).1
                  have hb9 := Below.grown HGP.out hgr hSx hblk
                  exact HKX.out _ _ ⟨ext_trans HW0.out hb9, Nat.le_trans hsz hgr.size, fun hn => hb9, fun hn => trivial⟩ (by unfold BsTR; rw [if_neg (by decide), if_pos rfl]; exact ⟨_, _, _, _, HOL.out, hgr⟩) ⟨A8, c8, upd_same _ _ _, by have h9 := hown; rwa [show rowsV2 t ++ [Value.int .i64 fa, Value.int .i64 fb] = rowsV2 (t ++ [⟨fa, fb⟩]) by simp [rowsV2, R2.cells]] at h9⟩
                · simp only [List.getElem?_toArray, List.getElem?_cons_succ, List.getElem?_cons_zero, Option.some.injEq] at ho
                  subst ho
                  have HKX := Lib.hid HK
                  clear HK
                  obtain ⟨A8, c8, e12, k12_0⟩ := (hdep 12 (by kernel_rfl)).2
                  have rr12 := (rbk 73 (by decide)).trans e12
                  have E12 := Lib.hid e12
                  clear e12
                  have K12_0 := Lib.hid k12_0
                  clear k12_0
                  have hSx : V.heap.size ≤ wx.heap.size := hsz
                  clear rb0 rbk hdep hini
                  go_simp
                  exact HKX.out _ _ (HQX.out _ (ext_alloc (ext_refl _) _)) (by unfold BsTR; rw [if_neg (by decide)]; rw [if_neg (by decide)]; rw [if_neg (by decide)]; exact ext_alloc (ext_refl _) _) ⟨wx.heap.size, A8, c8, upd_same _ _ _, hSx, Blk.born _ _ _ rfl, K12_0.out.alloc _⟩
                · simp only [List.getElem?_toArray, List.getElem?_cons_succ, List.getElem?_cons_zero, Option.some.injEq] at ho
                  subst ho
                  have HKX := Lib.hid HK
                  clear HK
                  have e0 : vs 61 = .slice Az PP.length cz := (hdep 0 (by kernel_rfl)).2
                  have rr0 := (rbk 61 (by decide)).trans e0
                  have E0 := Lib.hid e0
                  clear e0
                  obtain ⟨xq, A8, c8, e13, k13_0, k13_1, k13_2⟩ := (hdep 13 (by kernel_rfl)).2
                  have rr13 := (rbk 74 (by decide)).trans e13
                  have E13 := Lib.hid e13
                  clear e13
                  have K13_1 := Lib.hid k13_1
                  clear k13_1
                  have K13_2 := Lib.hid k13_2
                  clear k13_2
                  have hNL : ¬ rL 14 := hnl
                  have HGP := Lib.hid (HPRE.out hNL)
                  have e1 := ext_cell HGP.out hc1
                  have e2 := ext_cell HGP.out hc2
                  have e3 := ext_cell HGP.out hc3
                  have hSx : w.heap.size ≤ wx.heap.size := Nat.le_trans HW0.out.size HGP.out.size
                  have HOL := Lib.hid (own_ext HO2.out HGP.out)
                  have HTG := Lib.hid (HTG2.out.ext HGP.out)
                  have HRO := Lib.hid (own_ext HR2.out HGP.out)
                  have HRT := Lib.hid (HRT2.out.ext HGP.out)
                  have HFO := Lib.hid (own_ext HFS2.out HGP.out)
                  have HBF := Lib.hid (BF2.out.ext HGP.out)
                  have HS5 := Lib.hid (own_blk1 K13_1.out (Nat.le_trans HW0.out.size k13_0))
                  have K8 := K13_2
                  clear rb0 rbk hdep hini
                  refine step_appL rfl (.tmp 61) (.tmp 74) 90 rfl w.heap.size 24 j0 _ 1 24 Try.underlying90 jinf jz0 jz1 jz2 rfl (by decide) (.slice Az PP.length cz) PP.length us ((Array.getD_eq_getD_getElem? ..).trans rr0) HOL.out (some ⟨xq, 0, none⟩) 1 1 [.slice A8 (r + 1) c8] ((Array.getD_eq_getD_getElem? ..).trans rr13) w.heap.size HS5.out (by intro u hu; rcases List.mem_cons.1 hu with rfl | hu; rfl; cases hu) m5 m6 hSx ?_
                  intro A7 c7 w' hown hgr hat
                  have hb9 := below_grown' HOL.out (Nat.le_refl _) HGW.out hgr
                  exact HKX.out _ _ ⟨hb9, Nat.le_trans hsz hgr.size, fun hn => absurd (.inl rfl) hn, fun hn => trivial⟩ (by unfold BsTR; rw [if_neg (by decide), if_neg (by decide), if_pos rfl]; exact hgr) ⟨A7, c7, A8, c8, upd_same _ _ _, hown, K8.out.kept hgr (own_neT K8.out HOL.out (by decide)), HTG.out.kept HOL.out (by decide) hgr, HRO.out.kept hgr DJ.out, HRT.out.kept HOL.out (by decide) hgr, HFO.out.kept hgr (own_neT HFO.out HOL.out (by decide)), HBF.out.grownF hgr (own_nbT HOL.out HBF.out (by decide)), dj_more HRO.out DJ.out hat⟩
                · simp only [List.getElem?_toArray, List.getElem?_cons_succ, List.getElem?_cons_zero, Option.some.injEq] at ho
                  subst ho
                  have HKX := Lib.hid HK
                  clear HK
                  obtain ⟨A7, c7, A8, c8, e14, k14_0, k14_1, k14_2, k14_3, k14_4, k14_5, k14_6, k14_7⟩ := (hdep 14 (by kernel_rfl)).2
                  have rr14 := (rbk 75 (by decide)).trans e14
                  have E14 := Lib.hid e14
                  clear e14
                  have K14_0 := Lib.hid k14_0
                  clear k14_0
                  have K14_1 := Lib.hid k14_1
                  clear k14_1
                  have K14_2 := Lib.hid k14_2
                  clear k14_2
                  have K14_3 := Lib.hid k14_3
                  clear k14_3
                  have K14_4 := Lib.hid k14_4
                  clear k14_4
                  have K14_5 := Lib.hid k14_5
                  clear k14_5
                  have K14_6 := Lib.hid k14_6
                  clear k14_6
                  have K14_7 := Lib.hid k14_7
                  clear k14_7
                  clear rb0 rbk hdep hini
                  go_simp
                  exact HKX.out _ _ (HQX.out _ (ext_refl _)) (by unfold BsTR; rw [if_neg (by decide)]; rw [if_neg (by decide)]; rw [if_neg (by decide)]; exact ext_refl _) (⟨A7, c7, A8, c8, upd_same _ _ _, K14_0.out, K14_1.out, K14_2.out, K14_3.out, K14_4.out, K14_5.out, K14_6.out, K14_7.out⟩)
              intro vs wx kk rL hI hkk hLt hall
              obtain ⟨A7, c7, A8, c8, e7, hOut, hA8, hTg, hRest, hRT, hFs, hBF, hDJ⟩ := (hall 15 (by decide)).2 rfl
              have hGw := hI.1
              have HO3 := Lib.hid (show wx.ownsRow w.heap.size 24 1 (.slice A7 (PP ++ [t ++ [(⟨fa, fb⟩ : R2)]]).length c7) (PP ++ [t ++ [(⟨fa, fb⟩ : R2)]]).length (us ++ [.slice A8 (r + 1) c8]) by rw [List.length_append]; exact hOut)
              have HTG3 := Lib.hid (hTg.snoc HTL.out (own_base hA8 HW0.out.size))
              have HR3 := Lib.hid hRest
              have HRT3 := Lib.hid hRT
              have HFS3 := Lib.hid hFs
              have BF3 := Lib.hid hBF
              have DJ3 := Lib.hid (show Value.ownBlock (.slice (some ⟨br, 0, none⟩) RS.length cr) = none ∨ Value.ownBlock (.slice (some ⟨br, 0, none⟩) RS.length cr) ≠ Value.ownBlock (.slice A7 (PP ++ [t ++ [(⟨fa, fb⟩ : R2)]]).length c7) by rw [List.length_append]; exact hDJ)
              have hb3 := Lib.hid hGw
              clear hall hI hLt hkk hOut hA8 hTg hRest hRT hFs hBF hDJ hGw
              simp only [sl]
              rw [e7]
              simp only [Act.put, List.setIfInBounds_toArray, List.set_cons_succ, List.set_cons_zero]
              clear e7
              go_wp2
              go_roundw
              case rel => exact ⟨k + 1, A7, c7, us ++ [.slice A8 (r + 1) c8], PP ++ [t ++ [⟨fa, fb⟩]], by omega, by go_num, by rw [List.length_append]; rfl, by rw [List.length_append]; show PP.length + 1 ≤ _; omega, HP2, HO3, HTG3, HR3, HRT3, HFS3, BF3, DJ3, hb3⟩
              case measure => simp [intOf]; omega
            · obtain rfl : k = fs.length := by omega
              rw [List.take_of_length_le (Nat.le_refl _)] at HP
              have HM2 := Lib.hid (show LL ++ prodT (RS.take (i + 1)) fs = PP by rw [HPT.out, ← List.append_assoc, HM.out, HP.out])
              clear HP
              go_wp2
              go_roundw
              case rel => exact ⟨i + 1, Az, cz, us, PP, by omega, by go_num, rfl, by omega, HM2, HO, HTG, HR, HRT, HFS, BF, DJ, hb⟩
              case measure => simp [intOf]; omega
         · obtain rfl : i = RS.length := by omega
           rw [List.take_of_length_le (Nat.le_refl _)] at HM
           have HS2 := Lib.hid (HSTEP.out.trans HM.out)
           clear HM
           go_wp2
           go_roundw
           case rel => exact ⟨j + 1, Ay, cy, vs, MM, by omega, by rw [hvs], rfl, by omega, HS2, HO, HTG, BF, hb⟩
           case measure => simp only [intOf]; exact hvm

end Go.Proofs.Ytmfjaoljeildbaa
