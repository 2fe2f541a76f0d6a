/- l13Targets. -/
import Derived.Deep.CutBlock
import Derived.Test.YtaghjaiaoajpiaaVM5
import Derived.Test.YtaghjaiaoajpiaaVBsB
namespace Go.Proofs.Ytaghjaiaoajpiaa
open Go.RowKit
set_option linter.unusedVariables false
set_option linter.unusedSimpArgs false
theorem own_blk1 {w : World} {B x e : Nat} {a : Value} (h : Blk w x e #[a]) (hB : B ≤ x) : w.ownsRow B e 1 (.slice (some ⟨x, 0, none⟩) 1 1) 1 [a] :=
 ⟨by simp, .inr ⟨x, 1, #[a], rfl, hB, h, Nat.le_refl _, by unfold maxLen; omega, by simp, by simp⟩⟩
theorem dj_more {w : World} {B e size n : Nat} {v u u' : Value} {xs : List Value} (h : w.ownsRow B e size v n xs) (hd : v.ownBlock = none ∨ v.ownBlock ≠ u.ownBlock) (hat : u'.ownBlock = u.ownBlock ∨ u'.ownBlock = some w.heap.size) : v.ownBlock = none ∨ v.ownBlock ≠ u'.ownBlock := by
 rcases hd with hd | hd
 · exact .inl hd
 · refine .inr fun e => ?_
   rcases hat with ha | ha
   · exact hd (e.trans ha)
   · have := (h.lt _ (e.trans ha)).2
     omega
section
variable {P : Program} {w : World} {ops : Array Oper} {o : Oper} {a : Act} {Q : Exit → Act → World → Prop} {K : Act → World → Prop} {E : Prop}
/-- as step_appO; and where the row lies -/
theorem step_appL (hgd : o.guard = none) (s x : Operand) (t : TypeId) (ho : o.op = .call { callee := .builtin .append, args := #[s, x], argTypes := #[t, t] })
 (base : Nat) (e : TypeId) (i : TypeInfo) (z : Value) (size bytes : Nat) (ht : P.underlying t = some (.slice e)) (hi : P.info? e = some i) (hz : i.zero = some z)
 (hsize : i.size = size) (hby : i.bytes = bytes) (hzs : z.cells.size = size) (hsz : 0 < size)
 (v : Value) (n : Nat) (xs : List Value) (hs : a.eval s = v) (hown : w.ownsRow base e size v n xs)
 (A : Option Addr) (m c : Nat) (ys : List Value) (hx : a.eval x = .slice A m c) (B : Nat) (hsrc : w.ownsRow B e size (.slice A m c) m ys) (h1 : ∀ u ∈ ys, u.oneCell' = true)
 (h63 : n + m ≤ maxLen) (hbytes : (n + m) * bytes ≤ 140737488355328) (hbase : base ≤ w.heap.size)
 (h : ∀ A' c' w', w'.ownsRow base e size (.slice A' (n + m) c') (n + m) (xs ++ ys) → w.grownBy w' v.ownBlock → (Value.ownBlock (.slice A' (n + m) c') = v.ownBlock ∨ Value.ownBlock (.slice A' (n + m) c') = some w.heap.size) → K (a.put o.dst (.slice A' (n + m) c')) w') :
 if Region.wanted o (yielded ops a.tmps) = true then Oper.wp P o a w K Q else E := by
 rw [if_pos (by simp [Region.wanted, hgd])]
 obtain ⟨v', w', hr, h2, h3, h4⟩ := run_appO (P := P) w t o.type base e i z size bytes ht hi hz hsize hby hzs hsz v n xs hown A m c ys hsrc.1 (own_src hsrc).1 (own_src hsrc).2 h1 h63 hbytes hbase
 unfold Oper.wp execOp
 simp only [ho, resolve, invoke, builtin, Sem.run_bind, Sem.run_pure, Result.andThen_ok, List.map_toArray, List.map_cons, List.map_nil, hs, hx, hr]
 obtain ⟨A', c', rfl⟩ := own_shape h2
 exact h A' c' w' h2 h3 h4
end
theorem dj_new {w w' : World} {B e size n e2 s2 n2 : Nat} {v u : Value} {xs ys : List Value} (h : w.ownsRow B e size v n xs) (h2 : w'.ownsRow w.heap.size e2 s2 u n2 ys) : u.ownBlock = none ∨ u.ownBlock ≠ v.ownBlock := by
 cases hu : u.ownBlock with
 | none => exact .inl rfl
 | some b =>
   refine .inr fun e => ?_
   have h3 := (h2.lt b hu).1
   have h4 := (h.lt b e.symm).2
   omega
def BsT (S g : Nat) (S0 B0 : Nat) (u lo : Int) (A : Option Addr) (N c : Nat) (Ao : Option Addr) (no co : Nat) (vals : List Value) (LL : List (List R2)) (br nr cr i r ct : Nat) (At : Option Addr) (valsR : List Value) (RS : List (List R2)) (t : List R2) (bf nf cf k : Nat) (fs : List R2) (fa fb : Int) (vs : Nat → Value) (wx : World) : Nat → Prop
 | 0 => vs 61 = .slice Ao no co
 | 1 => ∃ (xq : Nat), vs 62 = .slice (some ⟨xq, 0, none⟩) 0 0 ∧ (S0 ≤ xq) ∧ (Blk wx xq 42 #[])
 | 2 => vs 63 = .slice (some ⟨br, 0, none⟩) nr cr
 | 3 => vs 64 = .int .i64 (i : Int)
 | 4 => vs 65 = .pointer (some ⟨br, i, none⟩)
 | 5 => vs 66 = .slice At r ct
 | 6 => ∃ (A9 : Option Addr) (c9 : Nat), vs 67 = .slice A9 r c9 ∧ (wx.ownsRow S 42 2 (.slice A9 r c9) r (rowsV2 t))
 | 7 => vs 68 = .slice (some ⟨bf, 0, none⟩) nf cf
 | 8 => vs 69 = .int .i64 (k : Int)
 | 9 => vs 70 = .pointer (some ⟨bf, k * 2, none⟩)
 | 10 => vs 71 = .agg #[.int .i64 fa, .int .i64 fb]
 | 11 => ∃ (xq : Nat), vs 72 = .slice (some ⟨xq, 0, none⟩) 1 1 ∧ (S0 ≤ xq) ∧ (Blk wx xq 42 #[.int .i64 fa, .int .i64 fb])
 | 12 => ∃ (A8 : Option Addr) (c8 : Nat), vs 73 = .slice A8 (r + 1) c8 ∧ (wx.ownsRow S 42 2 (.slice A8 (r + 1) c8) (r + 1) (rowsV2 (t ++ [⟨fa, fb⟩])))
 | 13 => ∃ (xq : Nat) (A8 : Option Addr) (c8 : Nat), vs 74 = .slice (some ⟨xq, 0, none⟩) 1 1 ∧ (S0 ≤ xq) ∧ (Blk wx xq 24 #[.slice A8 (r + 1) c8]) ∧ (wx.ownsRow S 42 2 (.slice A8 (r + 1) c8) (r + 1) (rowsV2 (t ++ [⟨fa, fb⟩])))
 | 14 => ∃ (A7 : Option Addr) (c7 : Nat) (A8 : Option Addr) (c8 : Nat), vs 75 = .slice A7 (no + 1) c7 ∧ (wx.ownsRow B0 24 1 (.slice A7 (no + 1) c7) (no + 1) (vals ++ [.slice A8 (r + 1) c8])) ∧ (wx.ownsRow S0 42 2 (.slice A8 (r + 1) c8) (r + 1) (rowsV2 (t ++ [⟨fa, fb⟩]))) ∧ (Tgs wx B0 (r + 1) vals LL) ∧ (wx.ownsRow B0 24 1 (.slice (some ⟨br, 0, none⟩) nr cr) nr valsR) ∧ (Tgs wx B0 r valsR RS) ∧ (wx.ownsRow B0 42 2 (.slice (some ⟨bf, 0, none⟩) nf cf) nf (rowsV2 fs)) ∧ (Blk wx B0 26 #[.int .i64 u, .int .i64 lo, .slice A N c]) ∧ (Value.ownBlock (.slice (some ⟨br, 0, none⟩) nr cr) = none ∨ Value.ownBlock (.slice (some ⟨br, 0, none⟩) nr cr) ≠ Value.ownBlock (.slice A7 (no + 1) c7))
 | 15 => ∃ (A7 : Option Addr) (c7 : Nat) (A8 : Option Addr) (c8 : Nat), vs 7 = .slice A7 (no + 1) c7 ∧ (wx.ownsRow B0 24 1 (.slice A7 (no + 1) c7) (no + 1) (vals ++ [.slice A8 (r + 1) c8])) ∧ (wx.ownsRow S0 42 2 (.slice A8 (r + 1) c8) (r + 1) (rowsV2 (t ++ [⟨fa, fb⟩]))) ∧ (Tgs wx B0 (r + 1) vals LL) ∧ (wx.ownsRow B0 24 1 (.slice (some ⟨br, 0, none⟩) nr cr) nr valsR) ∧ (Tgs wx B0 r valsR RS) ∧ (wx.ownsRow B0 42 2 (.slice (some ⟨bf, 0, none⟩) nf cf) nf (rowsV2 fs)) ∧ (Blk wx B0 26 #[.int .i64 u, .int .i64 lo, .slice A N c]) ∧ (Value.ownBlock (.slice (some ⟨br, 0, none⟩) nr cr) = none ∨ Value.ownBlock (.slice (some ⟨br, 0, none⟩) nr cr) ≠ Value.ownBlock (.slice A7 (no + 1) c7))
 | _ => True
def BsTU : Nat → List Nat
 | 0 => [61]
 | 1 => [62]
 | 2 => [63]
 | 3 => [64]
 | 4 => [65]
 | 5 => [66]
 | 6 => [67]
 | 7 => [68]
 | 8 => [69]
 | 9 => [70]
 | 10 => [71]
 | 11 => [72]
 | 12 => [73]
 | 13 => [74]
 | 14 => [75]
 | 15 => [7]
 | _ => []
def BsTR (g : Nat) (S0 B0 : Nat) (u lo : Int) (A : Option Addr) (N c : Nat) (Ao : Option Addr) (no co : Nat) (vals : List Value) (LL : List (List R2)) (br nr cr i r ct : Nat) (At : Option Addr) (valsR : List Value) (RS : List (List R2)) (t : List R2) (bf nf cf k : Nat) (fs : List R2) (fa fb : Int) (i : Nat) (wx wy : World) : Prop := if i = 6 then ∃ bz : Nat, Blk wx bz 42 #[] ∧ S0 ≤ bz ∧ wx.grownBy wy (some bz) else if i = 12 then ∃ (Az : Option Addr) (nz cz : Nat) (xz : List Value), wx.ownsRow S0 42 2 (.slice Az nz cz) nz xz ∧ wx.grownBy wy (Value.ownBlock (.slice Az nz cz)) else if i = 14 then wx.grownBy wy (Value.ownBlock (.slice Ao no co)) else Below wx.heap.size wx wy
theorem BsT_gr {S g : Nat} {S0 B0 : Nat} {u lo : Int} {A : Option Addr} {N c : Nat} {Ao : Option Addr} {no co : Nat} {vals : List Value} {LL : List (List R2)} {br nr cr i r ct : Nat} {At : Option Addr} {valsR : List Value} {RS : List (List R2)} {t : List R2} {bf nf cf k : Nat} {fs : List R2} {fa fb : Int} (hgS : True) {vs us : Nat → Value} {wx wy : World} {jN : Nat} (hGG : BsT S g S0 B0 u lo A N c Ao no co vals LL br nr cr i r ct At valsR RS t bf nf cf k fs fa fb vs wx jN) (haG : ∀ d ∈ BsTU jN, us d = vs d) (hbG : Below wx.heap.size wx wy) : BsT S g S0 B0 u lo A N c Ao no co vals LL br nr cr i r ct At valsR RS t bf nf cf k fs fa fb us wy jN := by
 match jN, hGG, haG with
 | 0, hGG, haG =>
   exact (haG 61 (by simp [BsTU])).trans hGG
 | 1, hGG, haG =>
   obtain ⟨xG0, eG, fG0, fG1⟩ := hGG
   exact ⟨xG0, (haG 62 (by simp [BsTU])).trans eG, fG0, fG1.ext hbG⟩
 | 2, hGG, haG =>
   exact (haG 63 (by simp [BsTU])).trans hGG
 | 3, hGG, haG =>
   exact (haG 64 (by simp [BsTU])).trans hGG
 | 4, hGG, haG =>
   exact (haG 65 (by simp [BsTU])).trans hGG
 | 5, hGG, haG =>
   exact (haG 66 (by simp [BsTU])).trans hGG
 | 6, hGG, haG =>
   obtain ⟨xG0, xG1, eG, fG0⟩ := hGG
   exact ⟨xG0, xG1, (haG 67 (by simp [BsTU])).trans eG, own_ext fG0 hbG⟩
 | 7, hGG, haG =>
   exact (haG 68 (by simp [BsTU])).trans hGG
 | 8, hGG, haG =>
   exact (haG 69 (by simp [BsTU])).trans hGG
 | 9, hGG, haG =>
   exact (haG 70 (by simp [BsTU])).trans hGG
 | 10, hGG, haG =>
   exact (haG 71 (by simp [BsTU])).trans hGG
 | 11, hGG, haG =>
   obtain ⟨xG0, eG, fG0, fG1⟩ := hGG
   exact ⟨xG0, (haG 72 (by simp [BsTU])).trans eG, fG0, fG1.ext hbG⟩
 | 12, hGG, haG =>
   obtain ⟨xG0, xG1, eG, fG0⟩ := hGG
   exact ⟨xG0, xG1, (haG 73 (by simp [BsTU])).trans eG, own_ext fG0 hbG⟩
 | 13, hGG, haG =>
   obtain ⟨xG0, xG1, xG2, eG, fG0, fG1, fG2⟩ := hGG
   exact ⟨xG0, xG1, xG2, (haG 74 (by simp [BsTU])).trans eG, fG0, fG1.ext hbG, own_ext fG2 hbG⟩
 | 14, hGG, haG =>
   obtain ⟨xG0, xG1, xG2, xG3, eG, fG0, fG1, fG2, fG3, fG4, fG5, fG6, fG7⟩ := hGG
   exact ⟨xG0, xG1, xG2, xG3, (haG 75 (by simp [BsTU])).trans eG, own_ext fG0 hbG, own_ext fG1 hbG, Tgs.ext fG2 hbG, own_ext fG3 hbG, Tgs.ext fG4 hbG, own_ext fG5 hbG, fG6.ext hbG, fG7⟩
 | 15, hGG, haG =>
   obtain ⟨xG0, xG1, xG2, xG3, eG, fG0, fG1, fG2, fG3, fG4, fG5, fG6, fG7⟩ := hGG
   exact ⟨xG0, xG1, xG2, xG3, (haG 7 (by simp [BsTU])).trans eG, own_ext fG0 hbG, own_ext fG1 hbG, Tgs.ext fG2 hbG, own_ext fG3 hbG, Tgs.ext fG4 hbG, own_ext fG5 hbG, fG6.ext hbG, fG7⟩
 | jN + 16, _, _ => trivial
theorem BsT_6 {S g : Nat} {S0 B0 : Nat} {u lo : Int} {A : Option Addr} {N c : Nat} {Ao : Option Addr} {no co : Nat} {vals : List Value} {LL : List (List R2)} {br nr cr i r ct : Nat} {At : Option Addr} {valsR : List Value} {RS : List (List R2)} {t : List R2} {bf nf cf k : Nat} {fs : List R2} {fa fb : Int} (hgS : True) {vs us : Nat → Value} {wx wy : World} {jN : Nat} (hneG : jN ≠ 6 ∧ jN ≠ 14 ∧ jN ≠ 15 ∧ jN ≠ 1 ∧ jN ≠ 12 ∧ jN ≠ 13) (hGG : BsT S g S0 B0 u lo A N c Ao no co vals LL br nr cr i r ct At valsR RS t bf nf cf k fs fa fb vs wx jN) (haG : ∀ d ∈ BsTU jN, us d = vs d) (hbG : ∃ bz : Nat, Blk wx bz 42 #[] ∧ S0 ≤ bz ∧ wx.grownBy wy (some bz)) : BsT S g S0 B0 u lo A N c Ao no co vals LL br nr cr i r ct At valsR RS t bf nf cf k fs fa fb us wy jN := by
 obtain ⟨bz, hz, _, hg⟩ := hbG
 match jN, hGG, haG, hneG with
 | 0, hGG, haG, hneG =>
   exact (haG 61 (by simp [BsTU])).trans hGG
 | 1, hGG, haG, hneG =>
   exact absurd hneG (by decide)
 | 2, hGG, haG, hneG =>
   exact (haG 63 (by simp [BsTU])).trans hGG
 | 3, hGG, haG, hneG =>
   exact (haG 64 (by simp [BsTU])).trans hGG
 | 4, hGG, haG, hneG =>
   exact (haG 65 (by simp [BsTU])).trans hGG
 | 5, hGG, haG, hneG =>
   exact (haG 66 (by simp [BsTU])).trans hGG
 | 6, hGG, haG, hneG =>
   exact absurd hneG (by decide)
 | 7, hGG, haG, hneG =>
   exact (haG 68 (by simp [BsTU])).trans hGG
 | 8, hGG, haG, hneG =>
   exact (haG 69 (by simp [BsTU])).trans hGG
 | 9, hGG, haG, hneG =>
   exact (haG 70 (by simp [BsTU])).trans hGG
 | 10, hGG, haG, hneG =>
   exact (haG 71 (by simp [BsTU])).trans hGG
 | 11, hGG, haG, hneG =>
   obtain ⟨xG0, eG, fG0, fG1⟩ := hGG
   exact ⟨xG0, (haG 72 (by simp [BsTU])).trans eG, fG0, fG1.grownF hg (blk_sz_ne fG1 hz (by simp))⟩
 | 12, hGG, haG, hneG =>
   exact absurd hneG (by decide)
 | 13, hGG, haG, hneG =>
   exact absurd hneG (by decide)
 | 14, hGG, haG, hneG =>
   exact absurd hneG (by decide)
 | 15, hGG, haG, hneG =>
   exact absurd hneG (by decide)
 | jN + 16, _, _, _ => trivial
theorem BsT_12 {S g : Nat} {S0 B0 : Nat} {u lo : Int} {A : Option Addr} {N c : Nat} {Ao : Option Addr} {no co : Nat} {vals : List Value} {LL : List (List R2)} {br nr cr i r ct : Nat} {At : Option Addr} {valsR : List Value} {RS : List (List R2)} {t : List R2} {bf nf cf k : Nat} {fs : List R2} {fa fb : Int} (hgS : True) {vs us : Nat → Value} {wx wy : World} {jN : Nat} (hneG : jN ≠ 12 ∧ jN ≠ 14 ∧ jN ≠ 15 ∧ jN ≠ 1 ∧ jN ≠ 6 ∧ jN ≠ 11 ∧ jN ≠ 13) (hGG : BsT S g S0 B0 u lo A N c Ao no co vals LL br nr cr i r ct At valsR RS t bf nf cf k fs fa fb vs wx jN) (haG : ∀ d ∈ BsTU jN, us d = vs d) (hbG : ∃ (Az : Option Addr) (nz cz : Nat) (xz : List Value), wx.ownsRow S0 42 2 (.slice Az nz cz) nz xz ∧ wx.grownBy wy (Value.ownBlock (.slice Az nz cz))) : BsT S g S0 B0 u lo A N c Ao no co vals LL br nr cr i r ct At valsR RS t bf nf cf k fs fa fb us wy jN := by
 obtain ⟨Az, nz, cz, xz, ho, hg⟩ := hbG
 match jN, hGG, haG, hneG with
 | 0, hGG, haG, hneG =>
   exact (haG 61 (by simp [BsTU])).trans hGG
 | 1, hGG, haG, hneG =>
   exact absurd hneG (by decide)
 | 2, hGG, haG, hneG =>
   exact (haG 63 (by simp [BsTU])).trans hGG
 | 3, hGG, haG, hneG =>
   exact (haG 64 (by simp [BsTU])).trans hGG
 | 4, hGG, haG, hneG =>
   exact (haG 65 (by simp [BsTU])).trans hGG
 | 5, hGG, haG, hneG =>
   exact (haG 66 (by simp [BsTU])).trans hGG
 | 6, hGG, haG, hneG =>
   exact absurd hneG (by decide)
 | 7, hGG, haG, hneG =>
   exact (haG 68 (by simp [BsTU])).trans hGG
 | 8, hGG, haG, hneG =>
   exact (haG 69 (by simp [BsTU])).trans hGG
 | 9, hGG, haG, hneG =>
   exact (haG 70 (by simp [BsTU])).trans hGG
 | 10, hGG, haG, hneG =>
   exact (haG 71 (by simp [BsTU])).trans hGG
 | 11, hGG, haG, hneG =>
   exact absurd hneG (by decide)
 | 12, hGG, haG, hneG =>
   exact absurd hneG (by decide)
 | 13, hGG, haG, hneG =>
   exact absurd hneG (by decide)
 | 14, hGG, haG, hneG =>
   exact absurd hneG (by decide)
 | 15, hGG, haG, hneG =>
   exact absurd hneG (by decide)
 | jN + 16, _, _, _ => trivial
theorem BsT_14 {S g : Nat} {S0 B0 : Nat} {u lo : Int} {A : Option Addr} {N c : Nat} {Ao : Option Addr} {no co : Nat} {vals : List Value} {LL : List (List R2)} {br nr cr i r ct : Nat} {At : Option Addr} {valsR : List Value} {RS : List (List R2)} {t : List R2} {bf nf cf k : Nat} {fs : List R2} {fa fb : Int} (hgS : True) {vs us : Nat → Value} {wx wy : World} {jN : Nat} (hneG : jN ≠ 14 ∧ jN ≠ 15 ∧ jN ≠ 1 ∧ jN ≠ 6 ∧ jN ≠ 11 ∧ jN ≠ 12 ∧ jN ≠ 13) (hGG : BsT S g S0 B0 u lo A N c Ao no co vals LL br nr cr i r ct At valsR RS t bf nf cf k fs fa fb vs wx jN) (haG : ∀ d ∈ BsTU jN, us d = vs d) (hbG : wx.grownBy wy (Value.ownBlock (.slice Ao no co))) : BsT S g S0 B0 u lo A N c Ao no co vals LL br nr cr i r ct At valsR RS t bf nf cf k fs fa fb us wy jN := by
 match jN, hGG, haG, hneG with
 | 0, hGG, haG, hneG =>
   exact (haG 61 (by simp [BsTU])).trans hGG
 | 1, hGG, haG, hneG =>
   exact absurd hneG (by decide)
 | 2, hGG, haG, hneG =>
   exact (haG 63 (by simp [BsTU])).trans hGG
 | 3, hGG, haG, hneG =>
   exact (haG 64 (by simp [BsTU])).trans hGG
 | 4, hGG, haG, hneG =>
   exact (haG 65 (by simp [BsTU])).trans hGG
 | 5, hGG, haG, hneG =>
   exact (haG 66 (by simp [BsTU])).trans hGG
 | 6, hGG, haG, hneG =>
   exact absurd hneG (by decide)
 | 7, hGG, haG, hneG =>
   exact (haG 68 (by simp [BsTU])).trans hGG
 | 8, hGG, haG, hneG =>
   exact (haG 69 (by simp [BsTU])).trans hGG
 | 9, hGG, haG, hneG =>
   exact (haG 70 (by simp [BsTU])).trans hGG
 | 10, hGG, haG, hneG =>
   exact (haG 71 (by simp [BsTU])).trans hGG
 | 11, hGG, haG, hneG =>
   exact absurd hneG (by decide)
 | 12, hGG, haG, hneG =>
   exact absurd hneG (by decide)
 | 13, hGG, haG, hneG =>
   exact absurd hneG (by decide)
 | 14, hGG, haG, hneG =>
   exact absurd hneG (by decide)
 | 15, hGG, haG, hneG =>
   exact absurd hneG (by decide)
 | jN + 16, _, _, _ => trivial
def BsTP (j i : Nat) : Bool := (j == 14 && i == 6) || (j == 14 && i == 12) || (j == 15 && i == 6) || (j == 15 && i == 12) || (j == 15 && i == 14) || (j == 1 && i == 6) || (j == 1 && i == 12) || (j == 6 && i == 12) || (j == 11 && i == 12) || (j == 12 && i == 6) || (j == 13 && i == 6) || (j == 13 && i == 12) || (j == 1 && i == 14) || (j == 6 && i == 14) || (j == 11 && i == 14) || (j == 12 && i == 14) || (j == 13 && i == 14)
theorem BsT_keep {S g : Nat} {S0 B0 : Nat} {u lo : Int} {A : Option Addr} {N c : Nat} {Ao : Option Addr} {no co : Nat} {vals : List Value} {LL : List (List R2)} {br nr cr i r ct : Nat} {At : Option Addr} {valsR : List Value} {RS : List (List R2)} {t : List R2} {bf nf cf k : Nat} {fs : List R2} {fa fb : Int} (hgS : True) {vs us : Nat → Value} {wx wy : World} {iN jN : Nat} (hneG : iN ≠ jN) (hdpG : BsTP jN iN = false) (hGG : BsT S g S0 B0 u lo A N c Ao no co vals LL br nr cr i r ct At valsR RS t bf nf cf k fs fa fb vs wx jN) (haG : ∀ d ∈ BsTU jN, us d = vs d) (hbG : BsTR g S0 B0 u lo A N c Ao no co vals LL br nr cr i r ct At valsR RS t bf nf cf k fs fa fb iN wx wy) : BsT S g S0 B0 u lo A N c Ao no co vals LL br nr cr i r ct At valsR RS t bf nf cf k fs fa fb us wy jN := by
 unfold BsTR at hbG
 by_cases h6 : iN = 6
 · rw [if_pos h6] at hbG
   exact BsT_6 hgS ⟨by omega, (fun e => by subst e; subst h6; cases hdpG), (fun e => by subst e; subst h6; cases hdpG), (fun e => by subst e; subst h6; cases hdpG), (fun e => by subst e; subst h6; cases hdpG), (fun e => by subst e; subst h6; cases hdpG)⟩ hGG haG hbG
 rw [if_neg h6] at hbG
 by_cases h12 : iN = 12
 · rw [if_pos h12] at hbG
   exact BsT_12 hgS ⟨by omega, (fun e => by subst e; subst h12; cases hdpG), (fun e => by subst e; subst h12; cases hdpG), (fun e => by subst e; subst h12; cases hdpG), (fun e => by subst e; subst h12; cases hdpG), (fun e => by subst e; subst h12; cases hdpG), (fun e => by subst e; subst h12; cases hdpG)⟩ hGG haG hbG
 rw [if_neg h12] at hbG
 by_cases h14 : iN = 14
 · rw [if_pos h14] at hbG
   exact BsT_14 hgS ⟨by omega, (fun e => by subst e; subst h14; cases hdpG), (fun e => by subst e; subst h14; cases hdpG), (fun e => by subst e; subst h14; cases hdpG), (fun e => by subst e; subst h14; cases hdpG), (fun e => by subst e; subst h14; cases hdpG), (fun e => by subst e; subst h14; cases hdpG)⟩ hGG haG hbG
 rw [if_neg h14] at hbG
 exact BsT_gr hgS hGG haG hbG
end Go.Proofs.Ytaghjaiaoajpiaa
