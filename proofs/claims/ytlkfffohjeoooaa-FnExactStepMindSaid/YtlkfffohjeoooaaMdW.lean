
/- Minds: the law of StepMind, walked. -/
import Derived.Test.YtlkfffohjeoooaaMdV
import Derived.Test.YtlkfffohjeoooaaRegL
namespace Go.Proofs.Ytlkfffohjeoooaa
open Go.RowKit
set_option linter.unusedVariables false
set_option linter.unusedSimpArgs false
def SmA (S : Nat) (u lo : Int) (n : Nat) (l : List R2) (k : Nat) (cl : List Int) (m : Nat) (im : List Int) (be gu kd v : Int) (A : Option Addr) (c : Nat) (K : Option Addr) (kc : Nat) (I : Option Addr) (ic : Nat) (U LO : Int) (N : Nat) (L : List R2) (NK : Nat) (CL : List Int) (NI : Nat) (IM : List Int) (BE GU : Int) (ok : Bool) (vs : Nat → Value) (wx : World) : Nat → Prop
  | 0 => vs 22 = mdV u lo A n c K k kc I m ic be gu
  | 1 => ∃ (Axa : Option Addr) (cxa : Nat) (Axk : Option Addr) (cxk : Nat) (Axi : Option Addr) (cxi : Nat), vs 23 = mdV u lo Axa n cxa Axk k cxk Axi m cxi be gu ∧ (wx.ownsRow S 155 2 (.slice Axa n cxa) n (rowsV2 l)) ∧ (wx.ownsRow S 3 1 (.slice Axk k cxk) k (intsV cl)) ∧ (wx.ownsRow S 3 1 (.slice Axi m cxi) m (intsV im))
  | 2 => vs 24 = .agg #[.int .i64 kd, .int .i64 v]
  | 3 => vs 25 = .agg #[.int .i64 kd, .int .i64 v]
  | 4 => ∃ (Ara : Option Addr) (cra : Nat) (Ark : Option Addr) (crk : Nat) (Ari : Option Addr) (cri : Nat), vs 26 = .tuple #[mdV U LO Ara N cra Ark NK crk Ari NI cri BE GU, .bool ok] ∧ (Value.ownBlock (.slice Ark NK crk) = none ∨ Value.ownBlock (.slice Ark NK crk) ≠ Value.ownBlock (.slice Ari NI cri)) ∧ (wx.ownsRow S 155 2 (.slice Ara N cra) N (rowsV2 L)) ∧ (wx.ownsRow S 3 1 (.slice Ark NK crk) NK (intsV CL)) ∧ (wx.ownsRow S 3 1 (.slice Ari NI cri) NI (intsV IM))
  | 5 => ∃ (Ara : Option Addr) (cra : Nat) (Ark : Option Addr) (crk : Nat) (Ari : Option Addr) (cri : Nat), vs 21 = .tuple #[mdV U LO Ara N cra Ark NK crk Ari NI cri BE GU, .bool ok] ∧ (Value.ownBlock (.slice Ark NK crk) = none ∨ Value.ownBlock (.slice Ark NK crk) ≠ Value.ownBlock (.slice Ari NI cri)) ∧ (wx.ownsRow S 155 2 (.slice Ara N cra) N (rowsV2 L)) ∧ (wx.ownsRow S 3 1 (.slice Ark NK crk) NK (intsV CL)) ∧ (wx.ownsRow S 3 1 (.slice Ari NI cri) NI (intsV IM))
  | 6 => ∃ (Ara : Option Addr) (cra : Nat) (Ark : Option Addr) (crk : Nat) (Ari : Option Addr) (cri : Nat), vs 27 = mdV U LO Ara N cra Ark NK crk Ari NI cri BE GU ∧ (Value.ownBlock (.slice Ark NK crk) = none ∨ Value.ownBlock (.slice Ark NK crk) ≠ Value.ownBlock (.slice Ari NI cri)) ∧ (wx.ownsRow S 155 2 (.slice Ara N cra) N (rowsV2 L)) ∧ (wx.ownsRow S 3 1 (.slice Ark NK crk) NK (intsV CL)) ∧ (wx.ownsRow S 3 1 (.slice Ari NI cri) NI (intsV IM))
  | 7 => ∃ (Ara : Option Addr) (cra : Nat) (Ark : Option Addr) (crk : Nat) (Ari : Option Addr) (cri : Nat), vs 28 = .bool ok
  | 8 => ∃ g, vs 6 = .pointer (some ⟨g, 0, none⟩) ∧ S ≤ g ∧ ∃ c0 c1 c2 c3 c4 c5 c6, Blk wx g 47 #[c0, c1, c2, c3, c4, c5, c6]
  | 9 => ∃ (g : Nat) (Ara : Option Addr) (cra : Nat) (Ark : Option Addr) (crk : Nat) (Ari : Option Addr) (cri : Nat), vs 6 = .pointer (some ⟨g, 0, none⟩) ∧ S ≤ g ∧ Blk wx g 47 #[.int .i64 U, .int .i64 LO, .slice Ara N cra, .slice Ark NK crk, .slice Ari NI cri, .int .i64 BE, .int .i64 GU] ∧ (Value.ownBlock (.slice Ark NK crk) = none ∨ Value.ownBlock (.slice Ark NK crk) ≠ Value.ownBlock (.slice Ari NI cri)) ∧ (wx.ownsRow S 155 2 (.slice Ara N cra) N (rowsV2 L)) ∧ (wx.ownsRow S 3 1 (.slice Ark NK crk) NK (intsV CL)) ∧ (wx.ownsRow S 3 1 (.slice Ari NI cri) NI (intsV IM))
  | 10 => ∃ (Ara : Option Addr) (cra : Nat) (Ark : Option Addr) (crk : Nat) (Ari : Option Addr) (cri : Nat), vs 7 = .bool ok
  | _ => True
def SmAU : Nat → List Nat
  | 0 => [22]
  | 1 => [23]
  | 2 => [24]
  | 3 => [25]
  | 4 => [26]
  | 5 => [21]
  | 6 => [27]
  | 7 => [28]
  | 8 => [6]
  | 9 => [6]
  | 10 => [7]
  | _ => []
theorem SmA_ext {S : Nat} {u lo : Int} {n : Nat} {l : List R2} {k : Nat} {cl : List Int} {m : Nat} {im : List Int} {be gu kd v : Int} {A : Option Addr} {c : Nat} {K : Option Addr} {kc : Nat} {I : Option Addr} {ic : Nat} {U LO : Int} {N : Nat} {L : List R2} {NK : Nat} {CL : List Int} {NI : Nat} {IM : List Int} {BE GU : Int} {ok : Bool} {vs us : Nat → Value} {wx wy : World} {j : Nat} (h : SmA S u lo n l k cl m im be gu kd v A c K kc I ic U LO N L NK CL NI IM BE GU ok vs wx j) (ha : ∀ d ∈ SmAU j, us d = vs d) (hb : Below wx.heap.size wx wy) : SmA S u lo n l k cl m im be gu kd v A c K kc I ic U LO N L NK CL NI IM BE GU ok us wy j := by
  match j, h, ha with
  | 0, h, ha =>
    exact (ha 22 (by simp [SmAU])).trans h
  | 1, h, ha =>
    obtain ⟨x0, x1, x2, x3, x4, x5, e, f0, f1, f2⟩ := h
    exact ⟨x0, x1, x2, x3, x4, x5, (ha 23 (by simp [SmAU])).trans e, own_ext f0 hb, own_ext f1 hb, own_ext f2 hb⟩
  | 2, h, ha =>
    exact (ha 24 (by simp [SmAU])).trans h
  | 3, h, ha =>
    exact (ha 25 (by simp [SmAU])).trans h
  | 4, h, ha =>
    obtain ⟨x0, x1, x2, x3, x4, x5, e, f0, f1, f2, f3⟩ := h
    exact ⟨x0, x1, x2, x3, x4, x5, (ha 26 (by simp [SmAU])).trans e, f0, own_ext f1 hb, own_ext f2 hb, own_ext f3 hb⟩
  | 5, h, ha =>
    obtain ⟨x0, x1, x2, x3, x4, x5, e, f0, f1, f2, f3⟩ := h
    exact ⟨x0, x1, x2, x3, x4, x5, (ha 21 (by simp [SmAU])).trans e, f0, own_ext f1 hb, own_ext f2 hb, own_ext f3 hb⟩
  | 6, h, ha =>
    obtain ⟨x0, x1, x2, x3, x4, x5, e, f0, f1, f2, f3⟩ := h
    exact ⟨x0, x1, x2, x3, x4, x5, (ha 27 (by simp [SmAU])).trans e, f0, own_ext f1 hb, own_ext f2 hb, own_ext f3 hb⟩
  | 7, h, ha =>
    obtain ⟨x0, x1, x2, x3, x4, x5, e⟩ := h
    exact ⟨x0, x1, x2, x3, x4, x5, (ha 28 (by simp [SmAU])).trans e⟩
  | 8, h, ha =>
    obtain ⟨g, e, hs, c0, c1, c2, c3, c4, c5, c6, hB⟩ := h
    exact ⟨g, (ha 6 (by simp [SmAU])).trans e, hs, c0, c1, c2, c3, c4, c5, c6, hB.ext hb⟩
  | 9, h, ha =>
    obtain ⟨g, x0, x1, x2, x3, x4, x5, e, hs, hB, f0, f1, f2, f3⟩ := h
    exact ⟨g, x0, x1, x2, x3, x4, x5, (ha 6 (by simp [SmAU])).trans e, hs, hB.ext hb, f0, own_ext f1 hb, own_ext f2 hb, own_ext f3 hb⟩
  | 10, h, ha =>
    obtain ⟨x0, x1, x2, x3, x4, x5, e⟩ := h
    exact ⟨x0, x1, x2, x3, x4, x5, (ha 7 (by simp [SmAU])).trans e⟩
  | j + 11, _, _ => trivial
theorem SmA_set {S : Nat} {u lo : Int} {n : Nat} {l : List R2} {k : Nat} {cl : List Int} {m : Nat} {im : List Int} {be gu kd v : Int} {A : Option Addr} {c : Nat} {K : Option Addr} {kc : Nat} {I : Option Addr} {ic : Nat} {U LO : Int} {N : Nat} {L : List R2} {NK : Nat} {CL : List Int} {NI : Nat} {IM : List Int} {BE GU : Int} {ok : Bool} {vs us : Nat → Value} {wx wy : World} {j : Nat} (h : SmA S u lo n l k cl m im be gu kd v A c K kc I ic U LO N L NK CL NI IM BE GU ok vs wx j) (ha : ∀ d ∈ SmAU j, us d = vs d) (hne : j ≠ 9) (hb : KeepW 47 wx wy) : SmA S u lo n l k cl m im be gu kd v A c K kc I ic U LO N L NK CL NI IM BE GU ok us wy j := by
  match j, h, ha, hne with
  | 0, h, ha, hne =>
    exact (ha 22 (by simp [SmAU])).trans h
  | 1, h, ha, hne =>
    obtain ⟨x0, x1, x2, x3, x4, x5, e, f0, f1, f2⟩ := h
    exact ⟨x0, x1, x2, x3, x4, x5, (ha 23 (by simp [SmAU])).trans e, hb.own f0 (by decide), hb.own f1 (by decide), hb.own f2 (by decide)⟩
  | 2, h, ha, hne =>
    exact (ha 24 (by simp [SmAU])).trans h
  | 3, h, ha, hne =>
    exact (ha 25 (by simp [SmAU])).trans h
  | 4, h, ha, hne =>
    obtain ⟨x0, x1, x2, x3, x4, x5, e, f0, f1, f2, f3⟩ := h
    exact ⟨x0, x1, x2, x3, x4, x5, (ha 26 (by simp [SmAU])).trans e, f0, hb.own f1 (by decide), hb.own f2 (by decide), hb.own f3 (by decide)⟩
  | 5, h, ha, hne =>
    obtain ⟨x0, x1, x2, x3, x4, x5, e, f0, f1, f2, f3⟩ := h
    exact ⟨x0, x1, x2, x3, x4, x5, (ha 21 (by simp [SmAU])).trans e, f0, hb.own f1 (by decide), hb.own f2 (by decide), hb.own f3 (by decide)⟩
  | 6, h, ha, hne =>
    obtain ⟨x0, x1, x2, x3, x4, x5, e, f0, f1, f2, f3⟩ := h
    exact ⟨x0, x1, x2, x3, x4, x5, (ha 27 (by simp [SmAU])).trans e, f0, hb.own f1 (by decide), hb.own f2 (by decide), hb.own f3 (by decide)⟩
  | 7, h, ha, hne =>
    obtain ⟨x0, x1, x2, x3, x4, x5, e⟩ := h
    exact ⟨x0, x1, x2, x3, x4, x5, (ha 28 (by simp [SmAU])).trans e⟩
  | 8, h, ha, hne =>
    obtain ⟨g, e, hs, c0, c1, c2, c3, c4, c5, c6, hB⟩ := h
    obtain ⟨cs', hB', hz⟩ := hb.2.2 g _ hB
    obtain ⟨d0, d1, d2, d3, d4, d5, d6, rfl⟩ := arr7 (cs := cs') (by rw [hz]; rfl)
    exact ⟨g, (ha 6 (by simp [SmAU])).trans e, hs, d0, d1, d2, d3, d4, d5, d6, hB'⟩
  | 9, h, ha, hne =>
    exact absurd rfl hne
  | 10, h, ha, hne =>
    obtain ⟨x0, x1, x2, x3, x4, x5, e⟩ := h
    exact ⟨x0, x1, x2, x3, x4, x5, (ha 7 (by simp [SmAU])).trans e⟩
  | j + 11, _, _, _ => trivial
def SmB (S : Nat) (u lo : Int) (n : Nat) (l : List R2) (k : Nat) (cl : List Int) (m : Nat) (im : List Int) (be gu kd v : Int) (A : Option Addr) (c : Nat) (K : Option Addr) (kc : Nat) (I : Option Addr) (ic : Nat) (U LO : Int) (N : Nat) (L : List R2) (NK : Nat) (CL : List Int) (NI : Nat) (IM : List Int) (BE GU : Int) (ok : Bool) (vs : Nat → Value) (wx : World) : Nat → Prop
  | 0 => vs 32 = mdV u lo A n c K k kc I m ic be gu
  | 1 => vs 33 = .agg #[.int .i64 kd, .int .i64 v]
  | 2 => vs 34 = .agg #[.int .i64 kd, .int .i64 v]
  | 3 => ∃ (Ara : Option Addr) (cra : Nat) (Ark : Option Addr) (crk : Nat) (Ari : Option Addr) (cri : Nat), vs 35 = .tuple #[mdV U LO Ara N cra Ark NK crk Ari NI cri BE GU, .bool ok] ∧ (Value.ownBlock (.slice Ark NK crk) = none ∨ Value.ownBlock (.slice Ark NK crk) ≠ Value.ownBlock (.slice Ari NI cri)) ∧ (wx.ownsRow S 155 2 (.slice Ara N cra) N (rowsV2 L)) ∧ (wx.ownsRow S 3 1 (.slice Ark NK crk) NK (intsV CL)) ∧ (wx.ownsRow S 3 1 (.slice Ari NI cri) NI (intsV IM))
  | 4 => ∃ (Ara : Option Addr) (cra : Nat) (Ark : Option Addr) (crk : Nat) (Ari : Option Addr) (cri : Nat), vs 31 = .tuple #[mdV U LO Ara N cra Ark NK crk Ari NI cri BE GU, .bool ok] ∧ (Value.ownBlock (.slice Ark NK crk) = none ∨ Value.ownBlock (.slice Ark NK crk) ≠ Value.ownBlock (.slice Ari NI cri)) ∧ (wx.ownsRow S 155 2 (.slice Ara N cra) N (rowsV2 L)) ∧ (wx.ownsRow S 3 1 (.slice Ark NK crk) NK (intsV CL)) ∧ (wx.ownsRow S 3 1 (.slice Ari NI cri) NI (intsV IM))
  | 5 => ∃ (Ara : Option Addr) (cra : Nat) (Ark : Option Addr) (crk : Nat) (Ari : Option Addr) (cri : Nat), vs 36 = mdV U LO Ara N cra Ark NK crk Ari NI cri BE GU ∧ (Value.ownBlock (.slice Ark NK crk) = none ∨ Value.ownBlock (.slice Ark NK crk) ≠ Value.ownBlock (.slice Ari NI cri)) ∧ (wx.ownsRow S 155 2 (.slice Ara N cra) N (rowsV2 L)) ∧ (wx.ownsRow S 3 1 (.slice Ark NK crk) NK (intsV CL)) ∧ (wx.ownsRow S 3 1 (.slice Ari NI cri) NI (intsV IM))
  | 6 => ∃ (Ara : Option Addr) (cra : Nat) (Ark : Option Addr) (crk : Nat) (Ari : Option Addr) (cri : Nat), vs 37 = .bool ok
  | 7 => ∃ g, vs 9 = .pointer (some ⟨g, 0, none⟩) ∧ S ≤ g ∧ ∃ c0 c1 c2 c3 c4 c5 c6, Blk wx g 47 #[c0, c1, c2, c3, c4, c5, c6]
  | 8 => ∃ (g : Nat) (Ara : Option Addr) (cra : Nat) (Ark : Option Addr) (crk : Nat) (Ari : Option Addr) (cri : Nat), vs 9 = .pointer (some ⟨g, 0, none⟩) ∧ S ≤ g ∧ Blk wx g 47 #[.int .i64 U, .int .i64 LO, .slice Ara N cra, .slice Ark NK crk, .slice Ari NI cri, .int .i64 BE, .int .i64 GU] ∧ (Value.ownBlock (.slice Ark NK crk) = none ∨ Value.ownBlock (.slice Ark NK crk) ≠ Value.ownBlock (.slice Ari NI cri)) ∧ (wx.ownsRow S 155 2 (.slice Ara N cra) N (rowsV2 L)) ∧ (wx.ownsRow S 3 1 (.slice Ark NK crk) NK (intsV CL)) ∧ (wx.ownsRow S 3 1 (.slice Ari NI cri) NI (intsV IM))
  | 9 => ∃ (Ara : Option Addr) (cra : Nat) (Ark : Option Addr) (crk : Nat) (Ari : Option Addr) (cri : Nat), vs 10 = .bool ok
  | _ => True
def SmBU : Nat → List Nat
  | 0 => [32]
  | 1 => [33]
  | 2 => [34]
  | 3 => [35]
  | 4 => [31]
  | 5 => [36]
  | 6 => [37]
  | 7 => [9]
  | 8 => [9]
  | 9 => [10]
  | _ => []
theorem SmB_ext {S : Nat} {u lo : Int} {n : Nat} {l : List R2} {k : Nat} {cl : List Int} {m : Nat} {im : List Int} {be gu kd v : Int} {A : Option Addr} {c : Nat} {K : Option Addr} {kc : Nat} {I : Option Addr} {ic : Nat} {U LO : Int} {N : Nat} {L : List R2} {NK : Nat} {CL : List Int} {NI : Nat} {IM : List Int} {BE GU : Int} {ok : Bool} {vs us : Nat → Value} {wx wy : World} {j : Nat} (h : SmB S u lo n l k cl m im be gu kd v A c K kc I ic U LO N L NK CL NI IM BE GU ok vs wx j) (ha : ∀ d ∈ SmBU j, us d = vs d) (hb : Below wx.heap.size wx wy) : SmB S u lo n l k cl m im be gu kd v A c K kc I ic U LO N L NK CL NI IM BE GU ok us wy j := by
  match j, h, ha with
  | 0, h, ha =>
    exact (ha 32 (by simp [SmBU])).trans h
  | 1, h, ha =>
    exact (ha 33 (by simp [SmBU])).trans h
  | 2, h, ha =>
    exact (ha 34 (by simp [SmBU])).trans h
  | 3, h, ha =>
    obtain ⟨x0, x1, x2, x3, x4, x5, e, f0, f1, f2, f3⟩ := h
    exact ⟨x0, x1, x2, x3, x4, x5, (ha 35 (by simp [SmBU])).trans e, f0, own_ext f1 hb, own_ext f2 hb, own_ext f3 hb⟩
  | 4, h, ha =>
    obtain ⟨x0, x1, x2, x3, x4, x5, e, f0, f1, f2, f3⟩ := h
    exact ⟨x0, x1, x2, x3, x4, x5, (ha 31 (by simp [SmBU])).trans e, f0, own_ext f1 hb, own_ext f2 hb, own_ext f3 hb⟩
  | 5, h, ha =>
    obtain ⟨x0, x1, x2, x3, x4, x5, e, f0, f1, f2, f3⟩ := h
    exact ⟨x0, x1, x2, x3, x4, x5, (ha 36 (by simp [SmBU])).trans e, f0, own_ext f1 hb, own_ext f2 hb, own_ext f3 hb⟩
  | 6, h, ha =>
    obtain ⟨x0, x1, x2, x3, x4, x5, e⟩ := h
    exact ⟨x0, x1, x2, x3, x4, x5, (ha 37 (by simp [SmBU])).trans e⟩
  | 7, h, ha =>
    obtain ⟨g, e, hs, c0, c1, c2, c3, c4, c5, c6, hB⟩ := h
    exact ⟨g, (ha 9 (by simp [SmBU])).trans e, hs, c0, c1, c2, c3, c4, c5, c6, hB.ext hb⟩
  | 8, h, ha =>
    obtain ⟨g, x0, x1, x2, x3, x4, x5, e, hs, hB, f0, f1, f2, f3⟩ := h
    exact ⟨g, x0, x1, x2, x3, x4, x5, (ha 9 (by simp [SmBU])).trans e, hs, hB.ext hb, f0, own_ext f1 hb, own_ext f2 hb, own_ext f3 hb⟩
  | 9, h, ha =>
    obtain ⟨x0, x1, x2, x3, x4, x5, e⟩ := h
    exact ⟨x0, x1, x2, x3, x4, x5, (ha 10 (by simp [SmBU])).trans e⟩
  | j + 10, _, _ => trivial
theorem SmB_set {S : Nat} {u lo : Int} {n : Nat} {l : List R2} {k : Nat} {cl : List Int} {m : Nat} {im : List Int} {be gu kd v : Int} {A : Option Addr} {c : Nat} {K : Option Addr} {kc : Nat} {I : Option Addr} {ic : Nat} {U LO : Int} {N : Nat} {L : List R2} {NK : Nat} {CL : List Int} {NI : Nat} {IM : List Int} {BE GU : Int} {ok : Bool} {vs us : Nat → Value} {wx wy : World} {j : Nat} (h : SmB S u lo n l k cl m im be gu kd v A c K kc I ic U LO N L NK CL NI IM BE GU ok vs wx j) (ha : ∀ d ∈ SmBU j, us d = vs d) (hne : j ≠ 8) (hb : KeepW 47 wx wy) : SmB S u lo n l k cl m im be gu kd v A c K kc I ic U LO N L NK CL NI IM BE GU ok us wy j := by
  match j, h, ha, hne with
  | 0, h, ha, hne =>
    exact (ha 32 (by simp [SmBU])).trans h
  | 1, h, ha, hne =>
    exact (ha 33 (by simp [SmBU])).trans h
  | 2, h, ha, hne =>
    exact (ha 34 (by simp [SmBU])).trans h
  | 3, h, ha, hne =>
    obtain ⟨x0, x1, x2, x3, x4, x5, e, f0, f1, f2, f3⟩ := h
    exact ⟨x0, x1, x2, x3, x4, x5, (ha 35 (by simp [SmBU])).trans e, f0, hb.own f1 (by decide), hb.own f2 (by decide), hb.own f3 (by decide)⟩
  | 4, h, ha, hne =>
    obtain ⟨x0, x1, x2, x3, x4, x5, e, f0, f1, f2, f3⟩ := h
    exact ⟨x0, x1, x2, x3, x4, x5, (ha 31 (by simp [SmBU])).trans e, f0, hb.own f1 (by decide), hb.own f2 (by decide), hb.own f3 (by decide)⟩
  | 5, h, ha, hne =>
    obtain ⟨x0, x1, x2, x3, x4, x5, e, f0, f1, f2, f3⟩ := h
    exact ⟨x0, x1, x2, x3, x4, x5, (ha 36 (by simp [SmBU])).trans e, f0, hb.own f1 (by decide), hb.own f2 (by decide), hb.own f3 (by decide)⟩
  | 6, h, ha, hne =>
    obtain ⟨x0, x1, x2, x3, x4, x5, e⟩ := h
    exact ⟨x0, x1, x2, x3, x4, x5, (ha 37 (by simp [SmBU])).trans e⟩
  | 7, h, ha, hne =>
    obtain ⟨g, e, hs, c0, c1, c2, c3, c4, c5, c6, hB⟩ := h
    obtain ⟨cs', hB', hz⟩ := hb.2.2 g _ hB
    obtain ⟨d0, d1, d2, d3, d4, d5, d6, rfl⟩ := arr7 (cs := cs') (by rw [hz]; rfl)
    exact ⟨g, (ha 9 (by simp [SmBU])).trans e, hs, d0, d1, d2, d3, d4, d5, d6, hB'⟩
  | 8, h, ha, hne =>
    exact absurd rfl hne
  | 9, h, ha, hne =>
    obtain ⟨x0, x1, x2, x3, x4, x5, e⟩ := h
    exact ⟨x0, x1, x2, x3, x4, x5, (ha 10 (by simp [SmBU])).trans e⟩
  | j + 10, _, _, _ => trivial
def SmC (S : Nat) (u lo : Int) (n : Nat) (l : List R2) (k : Nat) (cl : List Int) (m : Nat) (im : List Int) (be gu kd v : Int) (A : Option Addr) (c : Nat) (K : Option Addr) (kc : Nat) (I : Option Addr) (ic : Nat) (U LO : Int) (N : Nat) (L : List R2) (NK : Nat) (CL : List Int) (NI : Nat) (IM : List Int) (BE GU : Int) (ok : Bool) (vs : Nat → Value) (wx : World) : Nat → Prop
  | 0 => vs 80 = mdV u lo A n c K k kc I m ic be gu
  | 1 => ∃ (Axa : Option Addr) (cxa : Nat) (Axk : Option Addr) (cxk : Nat) (Axi : Option Addr) (cxi : Nat), vs 81 = mdV u lo Axa n cxa Axk k cxk Axi m cxi be gu ∧ (wx.ownsRow S 155 2 (.slice Axa n cxa) n (rowsV2 l)) ∧ (wx.ownsRow S 3 1 (.slice Axk k cxk) k (intsV cl)) ∧ (wx.ownsRow S 3 1 (.slice Axi m cxi) m (intsV im))
  | 2 => vs 82 = .agg #[.int .i64 kd, .int .i64 v]
  | 3 => vs 83 = .agg #[.int .i64 kd, .int .i64 v]
  | 4 => ∃ (Ara : Option Addr) (cra : Nat) (Ark : Option Addr) (crk : Nat) (Ari : Option Addr) (cri : Nat), vs 84 = .tuple #[mdV U LO Ara N cra Ark NK crk Ari NI cri BE GU, .bool ok] ∧ (Value.ownBlock (.slice Ark NK crk) = none ∨ Value.ownBlock (.slice Ark NK crk) ≠ Value.ownBlock (.slice Ari NI cri)) ∧ (wx.ownsRow S 155 2 (.slice Ara N cra) N (rowsV2 L)) ∧ (wx.ownsRow S 3 1 (.slice Ark NK crk) NK (intsV CL)) ∧ (wx.ownsRow S 3 1 (.slice Ari NI cri) NI (intsV IM))
  | 5 => ∃ (Ara : Option Addr) (cra : Nat) (Ark : Option Addr) (crk : Nat) (Ari : Option Addr) (cri : Nat), vs 79 = .tuple #[mdV U LO Ara N cra Ark NK crk Ari NI cri BE GU, .bool ok] ∧ (Value.ownBlock (.slice Ark NK crk) = none ∨ Value.ownBlock (.slice Ark NK crk) ≠ Value.ownBlock (.slice Ari NI cri)) ∧ (wx.ownsRow S 155 2 (.slice Ara N cra) N (rowsV2 L)) ∧ (wx.ownsRow S 3 1 (.slice Ark NK crk) NK (intsV CL)) ∧ (wx.ownsRow S 3 1 (.slice Ari NI cri) NI (intsV IM))
  | 6 => ∃ (Ara : Option Addr) (cra : Nat) (Ark : Option Addr) (crk : Nat) (Ari : Option Addr) (cri : Nat), vs 85 = mdV U LO Ara N cra Ark NK crk Ari NI cri BE GU ∧ (Value.ownBlock (.slice Ark NK crk) = none ∨ Value.ownBlock (.slice Ark NK crk) ≠ Value.ownBlock (.slice Ari NI cri)) ∧ (wx.ownsRow S 155 2 (.slice Ara N cra) N (rowsV2 L)) ∧ (wx.ownsRow S 3 1 (.slice Ark NK crk) NK (intsV CL)) ∧ (wx.ownsRow S 3 1 (.slice Ari NI cri) NI (intsV IM))
  | 7 => ∃ (Ara : Option Addr) (cra : Nat) (Ark : Option Addr) (crk : Nat) (Ari : Option Addr) (cri : Nat), vs 86 = .bool ok
  | 8 => ∃ g, vs 14 = .pointer (some ⟨g, 0, none⟩) ∧ S ≤ g ∧ ∃ c0 c1 c2 c3 c4 c5 c6, Blk wx g 47 #[c0, c1, c2, c3, c4, c5, c6]
  | 9 => ∃ (g : Nat) (Ara : Option Addr) (cra : Nat) (Ark : Option Addr) (crk : Nat) (Ari : Option Addr) (cri : Nat), vs 14 = .pointer (some ⟨g, 0, none⟩) ∧ S ≤ g ∧ Blk wx g 47 #[.int .i64 U, .int .i64 LO, .slice Ara N cra, .slice Ark NK crk, .slice Ari NI cri, .int .i64 BE, .int .i64 GU] ∧ (Value.ownBlock (.slice Ark NK crk) = none ∨ Value.ownBlock (.slice Ark NK crk) ≠ Value.ownBlock (.slice Ari NI cri)) ∧ (wx.ownsRow S 155 2 (.slice Ara N cra) N (rowsV2 L)) ∧ (wx.ownsRow S 3 1 (.slice Ark NK crk) NK (intsV CL)) ∧ (wx.ownsRow S 3 1 (.slice Ari NI cri) NI (intsV IM))
  | 10 => ∃ (Ara : Option Addr) (cra : Nat) (Ark : Option Addr) (crk : Nat) (Ari : Option Addr) (cri : Nat), vs 15 = .bool ok
  | _ => True
def SmCU : Nat → List Nat
  | 0 => [80]
  | 1 => [81]
  | 2 => [82]
  | 3 => [83]
  | 4 => [84]
  | 5 => [79]
  | 6 => [85]
  | 7 => [86]
  | 8 => [14]
  | 9 => [14]
  | 10 => [15]
  | _ => []
theorem SmC_ext {S : Nat} {u lo : Int} {n : Nat} {l : List R2} {k : Nat} {cl : List Int} {m : Nat} {im : List Int} {be gu kd v : Int} {A : Option Addr} {c : Nat} {K : Option Addr} {kc : Nat} {I : Option Addr} {ic : Nat} {U LO : Int} {N : Nat} {L : List R2} {NK : Nat} {CL : List Int} {NI : Nat} {IM : List Int} {BE GU : Int} {ok : Bool} {vs us : Nat → Value} {wx wy : World} {j : Nat} (h : SmC S u lo n l k cl m im be gu kd v A c K kc I ic U LO N L NK CL NI IM BE GU ok vs wx j) (ha : ∀ d ∈ SmCU j, us d = vs d) (hb : Below wx.heap.size wx wy) : SmC S u lo n l k cl m im be gu kd v A c K kc I ic U LO N L NK CL NI IM BE GU ok us wy j := by
  match j, h, ha with
  | 0, h, ha =>
    exact (ha 80 (by simp [SmCU])).trans h
  | 1, h, ha =>
    obtain ⟨x0, x1, x2, x3, x4, x5, e, f0, f1, f2⟩ := h
    exact ⟨x0, x1, x2, x3, x4, x5, (ha 81 (by simp [SmCU])).trans e, own_ext f0 hb, own_ext f1 hb, own_ext f2 hb⟩
  | 2, h, ha =>
    exact (ha 82 (by simp [SmCU])).trans h
  | 3, h, ha =>
    exact (ha 83 (by simp [SmCU])).trans h
  | 4, h, ha =>
    obtain ⟨x0, x1, x2, x3, x4, x5, e, f0, f1, f2, f3⟩ := h
    exact ⟨x0, x1, x2, x3, x4, x5, (ha 84 (by simp [SmCU])).trans e, f0, own_ext f1 hb, own_ext f2 hb, own_ext f3 hb⟩
  | 5, h, ha =>
    obtain ⟨x0, x1, x2, x3, x4, x5, e, f0, f1, f2, f3⟩ := h
    exact ⟨x0, x1, x2, x3, x4, x5, (ha 79 (by simp [SmCU])).trans e, f0, own_ext f1 hb, own_ext f2 hb, own_ext f3 hb⟩
  | 6, h, ha =>
    obtain ⟨x0, x1, x2, x3, x4, x5, e, f0, f1, f2, f3⟩ := h
    exact ⟨x0, x1, x2, x3, x4, x5, (ha 85 (by simp [SmCU])).trans e, f0, own_ext f1 hb, own_ext f2 hb, own_ext f3 hb⟩
  | 7, h, ha =>
    obtain ⟨x0, x1, x2, x3, x4, x5, e⟩ := h
    exact ⟨x0, x1, x2, x3, x4, x5, (ha 86 (by simp [SmCU])).trans e⟩
  | 8, h, ha =>
    obtain ⟨g, e, hs, c0, c1, c2, c3, c4, c5, c6, hB⟩ := h
    exact ⟨g, (ha 14 (by simp [SmCU])).trans e, hs, c0, c1, c2, c3, c4, c5, c6, hB.ext hb⟩
  | 9, h, ha =>
    obtain ⟨g, x0, x1, x2, x3, x4, x5, e, hs, hB, f0, f1, f2, f3⟩ := h
    exact ⟨g, x0, x1, x2, x3, x4, x5, (ha 14 (by simp [SmCU])).trans e, hs, hB.ext hb, f0, own_ext f1 hb, own_ext f2 hb, own_ext f3 hb⟩
  | 10, h, ha =>
    obtain ⟨x0, x1, x2, x3, x4, x5, e⟩ := h
    exact ⟨x0, x1, x2, x3, x4, x5, (ha 15 (by simp [SmCU])).trans e⟩
  | j + 11, _, _ => trivial
theorem SmC_set {S : Nat} {u lo : Int} {n : Nat} {l : List R2} {k : Nat} {cl : List Int} {m : Nat} {im : List Int} {be gu kd v : Int} {A : Option Addr} {c : Nat} {K : Option Addr} {kc : Nat} {I : Option Addr} {ic : Nat} {U LO : Int} {N : Nat} {L : List R2} {NK : Nat} {CL : List Int} {NI : Nat} {IM : List Int} {BE GU : Int} {ok : Bool} {vs us : Nat → Value} {wx wy : World} {j : Nat} (h : SmC S u lo n l k cl m im be gu kd v A c K kc I ic U LO N L NK CL NI IM BE GU ok vs wx j) (ha : ∀ d ∈ SmCU j, us d = vs d) (hne : j ≠ 9) (hb : KeepW 47 wx wy) : SmC S u lo n l k cl m im be gu kd v A c K kc I ic U LO N L NK CL NI IM BE GU ok us wy j := by
  match j, h, ha, hne with
  | 0, h, ha, hne =>
    exact (ha 80 (by simp [SmCU])).trans h
  | 1, h, ha, hne =>
    obtain ⟨x0, x1, x2, x3, x4, x5, e, f0, f1, f2⟩ := h
    exact ⟨x0, x1, x2, x3, x4, x5, (ha 81 (by simp [SmCU])).trans e, hb.own f0 (by decide), hb.own f1 (by decide), hb.own f2 (by decide)⟩
  | 2, h, ha, hne =>
    exact (ha 82 (by simp [SmCU])).trans h
  | 3, h, ha, hne =>
    exact (ha 83 (by simp [SmCU])).trans h
  | 4, h, ha, hne =>
    obtain ⟨x0, x1, x2, x3, x4, x5, e, f0, f1, f2, f3⟩ := h
    exact ⟨x0, x1, x2, x3, x4, x5, (ha 84 (by simp [SmCU])).trans e, f0, hb.own f1 (by decide), hb.own f2 (by decide), hb.own f3 (by decide)⟩
  | 5, h, ha, hne =>
    obtain ⟨x0, x1, x2, x3, x4, x5, e, f0, f1, f2, f3⟩ := h
    exact ⟨x0, x1, x2, x3, x4, x5, (ha 79 (by simp [SmCU])).trans e, f0, hb.own f1 (by decide), hb.own f2 (by decide), hb.own f3 (by decide)⟩
  | 6, h, ha, hne =>
    obtain ⟨x0, x1, x2, x3, x4, x5, e, f0, f1, f2, f3⟩ := h
    exact ⟨x0, x1, x2, x3, x4, x5, (ha 85 (by simp [SmCU])).trans e, f0, hb.own f1 (by decide), hb.own f2 (by decide), hb.own f3 (by decide)⟩
  | 7, h, ha, hne =>
    obtain ⟨x0, x1, x2, x3, x4, x5, e⟩ := h
    exact ⟨x0, x1, x2, x3, x4, x5, (ha 86 (by simp [SmCU])).trans e⟩
  | 8, h, ha, hne =>
    obtain ⟨g, e, hs, c0, c1, c2, c3, c4, c5, c6, hB⟩ := h
    obtain ⟨cs', hB', hz⟩ := hb.2.2 g _ hB
    obtain ⟨d0, d1, d2, d3, d4, d5, d6, rfl⟩ := arr7 (cs := cs') (by rw [hz]; rfl)
    exact ⟨g, (ha 14 (by simp [SmCU])).trans e, hs, d0, d1, d2, d3, d4, d5, d6, hB'⟩
  | 9, h, ha, hne =>
    exact absurd rfl hne
  | 10, h, ha, hne =>
    obtain ⟨x0, x1, x2, x3, x4, x5, e⟩ := h
    exact ⟨x0, x1, x2, x3, x4, x5, (ha 15 (by simp [SmCU])).trans e⟩
  | j + 11, _, _, _ => trivial
set_option maxRecDepth 100000 in
set_option maxHeartbeats 8000000 in
theorem law_StepMind (u lo : Int) (A : Option Addr) (n c : Nat) (l : List R2) (K : Option Addr) (k kc : Nat) (cl : List Int) (I : Option Addr) (m ic : Nat) (im : List Int) (be gu kd v : Int) (w : World) (hn : n ≤ maxLen) (hk : k ≤ maxLen) (hm : m ≤ maxLen) (h : Reads w w.heap.size 2 A n (rowsV2 l)) (hc : Reads w w.heap.size 1 K k (intsV cl)) (hi : Reads w w.heap.size 1 I m (intsV im)) :
    Calls Try.prog 6 #[mdV u lo A n c K k kc I m ic be gu, .agg #[.int .i64 kd, .int .i64 v]] w fun e w' => e = .returned (.bool true) ∧ Below w.heap.size w w' := by
  unfold maxLen at hn hk hm
  have HS := Lib.hid (fun w => szMind_any u lo A n c K k kc I m ic be gu 1048576 w hn hk hm (by omega) (by omega))
  have H := Lib.hid h
  have HC := Lib.hid hc
  have HI := Lib.hid hi
  clear h hc hi
  by_cases hbig : (1048576 : Int) < n + k + m
  · rw [szMv_no hbig] at HS
    go_enter Try.func6, Try.ntmps6
    go_wp2_with (go_at_call 26; refine (HS.out _).mono ?_; rintro e w' ⟨rfl, hb⟩)
    go_ret
    exact ⟨rfl, (by repeat (first | exact ext_refl _ | assumption | refine ext_alloc ?_ _ | refine ext_drew ?_ | refine ext_drewN ?_ _ | refine ext_set ?_ (by simp <;> omega) _ | refine ext_trans ?_ (by assumption)))⟩
  rw [szMv_yes hbig] at HS
  have hneg : ¬ (1048576 : Int) - n - k - m < 0 := by omega
  have hn : n ≤ 1048576 := by omega
  have hk : k ≤ 1048576 := by omega
  have hm : m ≤ 1048576 := by omega
  have hN := resQ_len (q := ⟨u, lo, l, cl, im, be, gu⟩) (k := kd) (v := v)
  have HA := Lib.hid (fun (w : World) (A : Option Addr) (c : Nat) (K : Option Addr) (kc : Nat) (I : Option Addr) (ic : Nat) h hc hi => (specStepMind_any u lo A n c l K k kc cl I m ic im be gu kd v w hn hk hm h hc hi).mono (retU _ w))
  have HB := Lib.hid (fun (w : World) (A : Option Addr) (c : Nat) (K : Option Addr) (kc : Nat) (I : Option Addr) (ic : Nat) h hc hi => (implStepMind_any u lo A n c l K k kc cl I m ic im be gu kd v w hn hk hm h hc hi).mono (retU _ w))
  obtain ⟨O, hO⟩ : ∃ O, stepO ⟨u, lo, l, cl, im, be, gu⟩ kd v = O := ⟨_, rfl⟩
  rw [hO] at HA HB hN
  obtain ⟨ok, hok⟩ : ∃ ok, O.isSome = ok := ⟨_, rfl⟩
  obtain ⟨X, hX⟩ : ∃ X, resQ O = X := ⟨_, rfl⟩
  rw [hX, hok] at HA HB
  rw [hX] at hN
  clear hO hok hX
  obtain ⟨U, LO, L, CL, IM, BE, GU⟩ := X
  unfold RetU at HA HB
  dsimp only at HA HB hN
  obtain ⟨N, hNL⟩ : ∃ N, L.length = N := ⟨_, rfl⟩
  obtain ⟨NK, hNK⟩ : ∃ N, CL.length = N := ⟨_, rfl⟩
  obtain ⟨NI, hNI⟩ : ∃ N, IM.length = N := ⟨_, rfl⟩
  rw [hNL, hNK, hNI] at HA HB hN
  clear hNL hNK hNI
  obtain ⟨hN, hNK, hNI⟩ := hN
  go_enter Try.func6, Try.ntmps6
  go_wp2_with fail
  refine (HS.out _).mono ?_
  rintro e w1 ⟨rfl, hb⟩
  have s1 : w.heap.size + 2 ≤ w1.heap.size := (by have := hb.size; (try simp at this); omega)
  have z1_0 : w.heap.size < w1.heap.size := (by omega)
  have z1_1 : w.heap.size + 1 < w1.heap.size := (by omega)
  have q1_0 : w1.cell? ⟨w.heap.size, 0, none⟩ = some (.int .i64 u) := ext_cell hb (by simp [go_sem])
  have q1_1 : w1.cell? ⟨w.heap.size, 1, none⟩ = some (.int .i64 lo) := ext_cell hb (by simp [go_sem])
  have q1_2 : w1.cell? ⟨w.heap.size, 2, none⟩ = some (.slice A n c) := ext_cell hb (by simp [go_sem])
  have q1_3 : w1.cell? ⟨w.heap.size, 3, none⟩ = some (.slice K k kc) := ext_cell hb (by simp [go_sem])
  have q1_4 : w1.cell? ⟨w.heap.size, 4, none⟩ = some (.slice I m ic) := ext_cell hb (by simp [go_sem])
  have q1_5 : w1.cell? ⟨w.heap.size, 5, none⟩ = some (.int .i64 be) := ext_cell hb (by simp [go_sem])
  have q1_6 : w1.cell? ⟨w.heap.size, 6, none⟩ = some (.int .i64 gu) := ext_cell hb (by simp [go_sem])
  have q1_7 : w1.cell? ⟨w.heap.size + 1, 0, none⟩ = some (.int .i64 kd) := ext_cell hb (by simp [go_sem])
  have q1_8 : w1.cell? ⟨w.heap.size + 1, 1, none⟩ = some (.int .i64 v) := ext_cell hb (by simp [go_sem])
  have b1 := Lib.hid (ext_trans (ext_alloc (ext_alloc (ext_refl w) _) _) hb)
  have t1 : w.heap.size ≤ w1.heap.size := b1.out.size
  clear hb
  have B0 := Lib.hid b1.out
  go_upto_region 5 with fail
  refine wp_region_left (by kernel_rfl) (by kernel_rfl) [6, 7, 21, 22, 23, 24, 25, 26, 27, 28] SmAU (by kernel_rfl) (by decide) 29 (by kernel_rfl) (by simp) (fun a0 => a0.eval (.tmp 2) = .pointer (some ⟨w.heap.size, 0, none⟩) ∧ a0.eval (.tmp 3) = .pointer (some ⟨w.heap.size + 1, 0, none⟩)) ⟨by kernel_rfl, by kernel_rfl⟩ (fun _ wx => Below w1.heap.size w1 wx) (fun wx wy => Below wx.heap.size wx wy) 9 (KeepW 47) (fun j vs wx => SmA w1.heap.size u lo n l k cl m im be gu kd v A c K kc I ic U LO N L NK CL NI IM BE GU ok vs wx j) ((ext_refl w1).drew) (fun j vs us w w' h ha hb => SmA_ext h ha hb) (fun j vs us w w' hne h ha hb => SmA_set h ha hne hb) ?_ ?_
  · intro a0 hE i o ho Qx vs wx b KX kk HBw hdep b0 bk HK
    repeat (rename_i hz9; clear hz9)
    obtain ⟨q2, q3⟩ := hE
    have hi : i < 11 := by
      rcases Nat.lt_or_ge i 11 with h | h
      · exact h
      · rw [Array.getElem?_eq_none (by simpa using h)] at ho; cases ho
    have HBX := Lib.hid HBw
    have hsz := HBw.size
    clear HBw
    rcases (show i = 0 ∨ i = 1 ∨ i = 2 ∨ i = 3 ∨ i = 4 ∨ i = 5 ∨ i = 6 ∨ i = 7 ∨ i = 8 ∨ i = 9 ∨ i = 10 by omega) with rfl | rfl | rfl | rfl | rfl | rfl | rfl | rfl | rfl | rfl | rfl
    · simp only [List.getElem?_toArray, List.getElem?_cons_succ, List.getElem?_cons_zero, Option.some.injEq] at ho
      subst ho
      have HKX := Lib.hid HK
      clear HK
      have p2 := (b0 2 (by decide)).trans q2
      have c0 := ext_cell HBX.out q1_0
      have c1 := ext_cell HBX.out q1_1
      have c2 := ext_cell HBX.out q1_2
      have c3 := ext_cell HBX.out q1_3
      have c4 := ext_cell HBX.out q1_4
      have c5 := ext_cell HBX.out q1_5
      have c6 := ext_cell HBX.out q1_6
      have c7 := ext_cell HBX.out q1_7
      have c8 := ext_cell HBX.out q1_8
      have l0 : w.heap.size < wx.heap.size := Nat.lt_of_lt_of_le z1_0 hsz
      have l1 : w.heap.size + 1 < wx.heap.size := Nat.lt_of_lt_of_le z1_1 hsz
      clear b0 bk hdep
      go_simp
      exact HKX.out _ _ HBX.out (by rw [if_neg (by decide)]; exact ext_refl _) (upd_same _ _ _)
    · simp only [List.getElem?_toArray, List.getElem?_cons_succ, List.getElem?_cons_zero, Option.some.injEq] at ho
      subst ho
      have HKX := Lib.hid HK
      clear HK
      have e0 : vs 22 = mdV u lo A n c K k kc I m ic be gu := (hdep 0 (by kernel_rfl))
      have r0 := (bk 22 (by decide)).trans e0
      have E0 := Lib.hid e0
      clear e0
      clear b0 bk hdep
      go_simp
      refine (toMind_any u lo A n c l K k kc cl I m ic im be gu _ hn hk hm ((H.out.ext (ext_trans B0.out HBX.out) (Nat.le_refl _)).more (Nat.le_trans B0.out.size hsz)) ((HC.out.ext (ext_trans B0.out HBX.out) (Nat.le_refl _)).more (Nat.le_trans B0.out.size hsz)) ((HI.out.ext (ext_trans B0.out HBX.out) (Nat.le_refl _)).more (Nat.le_trans B0.out.size hsz))).mono ?_
      rintro e w' ⟨Axa, cxa, Axk, cxk, Axi, cxi, rfl, _, n0, n1, n2, hb⟩
      go_simp
      exact HKX.out _ _ (ext_trans HBX.out hb) (by rw [if_neg (by decide)]; exact hb) (⟨Axa, cxa, Axk, cxk, Axi, cxi, upd_same _ _ _, own_base n0 hsz, own_base n1 hsz, own_base n2 hsz⟩)
    · simp only [List.getElem?_toArray, List.getElem?_cons_succ, List.getElem?_cons_zero, Option.some.injEq] at ho
      subst ho
      have HKX := Lib.hid HK
      clear HK
      have p3 := (b0 3 (by decide)).trans q3
      have c0 := ext_cell HBX.out q1_0
      have c1 := ext_cell HBX.out q1_1
      have c2 := ext_cell HBX.out q1_2
      have c3 := ext_cell HBX.out q1_3
      have c4 := ext_cell HBX.out q1_4
      have c5 := ext_cell HBX.out q1_5
      have c6 := ext_cell HBX.out q1_6
      have c7 := ext_cell HBX.out q1_7
      have c8 := ext_cell HBX.out q1_8
      have l0 : w.heap.size < wx.heap.size := Nat.lt_of_lt_of_le z1_0 hsz
      have l1 : w.heap.size + 1 < wx.heap.size := Nat.lt_of_lt_of_le z1_1 hsz
      clear b0 bk hdep
      go_simp
      exact HKX.out _ _ HBX.out (by rw [if_neg (by decide)]; exact ext_refl _) (upd_same _ _ _)
    · simp only [List.getElem?_toArray, List.getElem?_cons_succ, List.getElem?_cons_zero, Option.some.injEq] at ho
      subst ho
      have HKX := Lib.hid HK
      clear HK
      have e2 : vs 24 = .agg #[.int .i64 kd, .int .i64 v] := (hdep 2 (by kernel_rfl))
      have r2 := (bk 24 (by decide)).trans e2
      have E2 := Lib.hid e2
      clear e2
      clear b0 bk hdep
      go_simp
      refine (toMindStep_any ⟨kd, v⟩ _).mono ?_
      rintro e w' ⟨rfl, hb⟩
      go_simp
      exact HKX.out _ _ (ext_trans HBX.out hb) (by rw [if_neg (by decide)]; exact hb) (upd_same _ _ _)
    · simp only [List.getElem?_toArray, List.getElem?_cons_succ, List.getElem?_cons_zero, Option.some.injEq] at ho
      subst ho
      have HKX := Lib.hid HK
      clear HK
      obtain ⟨Axa, cxa, Axk, cxk, Axi, cxi, e1, k1_0, k1_1, k1_2⟩ := (hdep 1 (by kernel_rfl))
      have e3 : vs 25 = .agg #[.int .i64 kd, .int .i64 v] := (hdep 3 (by kernel_rfl))
      have r1 := (bk 23 (by decide)).trans e1
      have r3 := (bk 25 (by decide)).trans e3
      have E1 := Lib.hid e1
      clear e1
      have E3 := Lib.hid e3
      clear e3
      have K1_0 := Lib.hid k1_0
      clear k1_0
      have K1_1 := Lib.hid k1_1
      clear k1_1
      have K1_2 := Lib.hid k1_2
      clear k1_2
      clear b0 bk hdep
      go_simp
      refine (HA.out _ Axa cxa Axk cxk Axi cxi (Reads.of_own K1_0.out) (Reads.of_own K1_1.out) (Reads.of_own K1_2.out)).mono ?_
      rintro e w' ⟨Ara, cra, Ark, crk, Ari, cri, rfl, n0, n1, n2, n3, hb⟩
      go_simp
      exact HKX.out _ _ (ext_trans HBX.out hb) (by rw [if_neg (by decide)]; exact hb) (⟨Ara, cra, Ark, crk, Ari, cri, upd_same _ _ _, n0, own_base n1 hsz, own_base n2 hsz, own_base n3 hsz⟩)
    · simp only [List.getElem?_toArray, List.getElem?_cons_succ, List.getElem?_cons_zero, Option.some.injEq] at ho
      subst ho
      have HKX := Lib.hid HK
      clear HK
      obtain ⟨Ara, cra, Ark, crk, Ari, cri, e4, k4_0, k4_1, k4_2, k4_3⟩ := (hdep 4 (by kernel_rfl))
      have r4 := (bk 26 (by decide)).trans e4
      have E4 := Lib.hid e4
      clear e4
      have K4_0 := Lib.hid k4_0
      clear k4_0
      have K4_1 := Lib.hid k4_1
      clear k4_1
      have K4_2 := Lib.hid k4_2
      clear k4_2
      have K4_3 := Lib.hid k4_3
      clear k4_3
      clear b0 bk hdep
      go_simp
      exact HKX.out _ _ HBX.out (by rw [if_neg (by decide)]; exact ext_refl _) (⟨Ara, cra, Ark, crk, Ari, cri, upd_same _ _ _, K4_0.out, K4_1.out, K4_2.out, K4_3.out⟩)
    · simp only [List.getElem?_toArray, List.getElem?_cons_succ, List.getElem?_cons_zero, Option.some.injEq] at ho
      subst ho
      have HKX := Lib.hid HK
      clear HK
      obtain ⟨Ara, cra, Ark, crk, Ari, cri, e5, k5_0, k5_1, k5_2, k5_3⟩ := (hdep 5 (by kernel_rfl))
      have r5 := (bk 21 (by decide)).trans e5
      have E5 := Lib.hid e5
      clear e5
      have K5_0 := Lib.hid k5_0
      clear k5_0
      have K5_1 := Lib.hid k5_1
      clear k5_1
      have K5_2 := Lib.hid k5_2
      clear k5_2
      have K5_3 := Lib.hid k5_3
      clear k5_3
      clear b0 bk hdep
      go_simp
      exact HKX.out _ _ HBX.out (by rw [if_neg (by decide)]; exact ext_refl _) (⟨Ara, cra, Ark, crk, Ari, cri, upd_same _ _ _, K5_0.out, K5_1.out, K5_2.out, K5_3.out⟩)
    · simp only [List.getElem?_toArray, List.getElem?_cons_succ, List.getElem?_cons_zero, Option.some.injEq] at ho
      subst ho
      have HKX := Lib.hid HK
      clear HK
      obtain ⟨Ara, cra, Ark, crk, Ari, cri, e5, k5_0, k5_1, k5_2, k5_3⟩ := (hdep 5 (by kernel_rfl))
      have r5 := (bk 21 (by decide)).trans e5
      have E5 := Lib.hid e5
      clear e5
      have K5_0 := Lib.hid k5_0
      clear k5_0
      have K5_1 := Lib.hid k5_1
      clear k5_1
      have K5_2 := Lib.hid k5_2
      clear k5_2
      have K5_3 := Lib.hid k5_3
      clear k5_3
      clear b0 bk hdep
      go_simp
      exact HKX.out _ _ HBX.out (by rw [if_neg (by decide)]; exact ext_refl _) (⟨Ara, cra, Ark, crk, Ari, cri, upd_same _ _ _⟩)
    · simp only [List.getElem?_toArray, List.getElem?_cons_succ, List.getElem?_cons_zero, Option.some.injEq] at ho
      subst ho
      have HKX := Lib.hid HK
      clear HK
      clear b0 bk hdep
      go_simp
      exact HKX.out _ _ (ext_alloc HBX.out _) (by rw [if_neg (by decide)]; exact ext_alloc (ext_refl _) _) ⟨wx.heap.size, upd_same _ _ _, hsz, _, _, _, _, _, _, _, Blk.born _ _ _ rfl⟩
    · simp only [List.getElem?_toArray, List.getElem?_cons_succ, List.getElem?_cons_zero, Option.some.injEq] at ho
      subst ho
      have HKX := Lib.hid HK
      clear HK
      obtain ⟨g, e8, hs8, c0, c1, c2, c3, c4, c5, c6, hB8⟩ := (hdep 8 (by kernel_rfl))
      obtain ⟨Ara, cra, Ark, crk, Ari, cri, e6, k6_0, k6_1, k6_2, k6_3⟩ := (hdep 6 (by kernel_rfl))
      have r8 := (bk 6 (by decide)).trans e8
      have r6 := (bk 27 (by decide)).trans e6
      have E8 := Lib.hid e8
      clear e8
      have E6 := Lib.hid e6
      clear e6
      have K6_0 := Lib.hid k6_0
      clear k6_0
      have K6_1 := Lib.hid k6_1
      clear k6_1
      have K6_2 := Lib.hid k6_2
      clear k6_2
      have K6_3 := Lib.hid k6_3
      clear k6_3
      have hlt := hB8.lt
      obtain ⟨y0, y1, y2, y3, y4, y5, y6⟩ := hB8.q7
      obtain ⟨z0, z1, z2, z3, z4, z5, z6⟩ := hB8.z7
      have HBB := Lib.hid hB8
      clear hB8 b0 bk hdep
      go_simp
      have HKW := Lib.hid (keep7 (a0 := .int .i64 U) (a1 := .int .i64 LO) (a2 := .slice Ara N cra) (a3 := .slice Ark NK crk) (a4 := .slice Ari NI cri) (a5 := .int .i64 BE) (a6 := .int .i64 GU) HBB.out)
      exact HKX.out undef _ (bel7 HBX.out hs8) (by rw [if_pos rfl]; exact HKW.out) ⟨g, Ara, cra, Ark, crk, Ari, cri, E8.out, hs8, put7 HBB.out, K6_0.out, HKW.out.own K6_1.out (by decide), HKW.out.own K6_2.out (by decide), HKW.out.own K6_3.out (by decide)⟩
    · simp only [List.getElem?_toArray, List.getElem?_cons_succ, List.getElem?_cons_zero, Option.some.injEq] at ho
      subst ho
      have HKX := Lib.hid HK
      clear HK
      obtain ⟨Ara, cra, Ark, crk, Ari, cri, e7⟩ := (hdep 7 (by kernel_rfl))
      have r7 := (bk 28 (by decide)).trans e7
      have E7 := Lib.hid e7
      clear e7
      clear b0 bk hdep
      go_simp
      exact HKX.out _ _ HBX.out (by rw [if_neg (by decide)]; exact ext_refl _) (⟨Ara, cra, Ark, crk, Ari, cri, upd_same _ _ _⟩)
  intro vs wx kk hb hall
  obtain ⟨g2, Awa, cwa, Awk, cwk, Awi, cwi, e1, hgl2, hB, hne_w, ho_wa, ho_wk, ho_wi⟩ := hall 9 (by decide)
  obtain ⟨_, _, _, _, _, _, e2⟩ := hall 10 (by decide)
  clear hall
  simp only [sl]
  rw [e1, e2]
  clear e1 e2
  obtain ⟨w2, hw2⟩ : ∃ x : World, x = wx := ⟨_, rfl⟩
  subst hw2
  have Hhne_w := Lib.hid hne_w
  clear hne_w
  have HB2 := Lib.hid hB
  have hgs2 := hB.lt
  have hn_wa := Lib.hid (own_nbT ho_wa hB (by decide))
  have hn_wk := Lib.hid (own_nbT ho_wk hB (by decide))
  have hn_wi := Lib.hid (own_nbT ho_wi hB (by decide))
  have s2 : w1.heap.size ≤ w2.heap.size := (by have := hb.size; (try simp at this); omega)
  have z2_0 : w.heap.size < w2.heap.size := (by omega)
  have z2_1 : w.heap.size + 1 < w2.heap.size := (by omega)
  have q2_0 : w2.cell? ⟨w.heap.size, 0, none⟩ = some (.int .i64 u) := ext_cell hb q1_0
  have q2_1 : w2.cell? ⟨w.heap.size, 1, none⟩ = some (.int .i64 lo) := ext_cell hb q1_1
  have q2_2 : w2.cell? ⟨w.heap.size, 2, none⟩ = some (.slice A n c) := ext_cell hb q1_2
  have q2_3 : w2.cell? ⟨w.heap.size, 3, none⟩ = some (.slice K k kc) := ext_cell hb q1_3
  have q2_4 : w2.cell? ⟨w.heap.size, 4, none⟩ = some (.slice I m ic) := ext_cell hb q1_4
  have q2_5 : w2.cell? ⟨w.heap.size, 5, none⟩ = some (.int .i64 be) := ext_cell hb q1_5
  have q2_6 : w2.cell? ⟨w.heap.size, 6, none⟩ = some (.int .i64 gu) := ext_cell hb q1_6
  have q2_7 : w2.cell? ⟨w.heap.size + 1, 0, none⟩ = some (.int .i64 kd) := ext_cell hb q1_7
  have q2_8 : w2.cell? ⟨w.heap.size + 1, 1, none⟩ = some (.int .i64 v) := ext_cell hb q1_8
  have b2 := Lib.hid (ext_trans b1.out hb)
  have t2 : w.heap.size ≤ w2.heap.size := b2.out.size
  clear q1_0 q1_1 q1_2 q1_3 q1_4 q1_5 q1_6 q1_7 q1_8
  obtain ⟨p2_0, p2_1, p2_2, p2_3, p2_4, p2_5, p2_6⟩ := HB2.out.q7
  have z2_2 : g2 < w2.heap.size := hgs2
  have oc_wa := Lib.hid ho_wa
  clear ho_wa
  have oc_wk := Lib.hid ho_wk
  clear ho_wk
  have oc_wi := Lib.hid ho_wi
  clear ho_wi
  clear hb hB B0
  go_wp2_with fail
  refine (toMind_any u lo A n c l K k kc cl I m ic im be gu _ hn hk hm ((H.out.ext b2.out (Nat.le_refl _)).more (by first | omega | (simp <;> omega))) ((HC.out.ext b2.out (Nat.le_refl _)).more (by first | omega | (simp <;> omega))) ((HI.out.ext b2.out (Nat.le_refl _)).more (by first | omega | (simp <;> omega)))).mono ?_
  rintro e w3 ⟨Axa, cxa, Axk, cxk, Axi, cxi, rfl, hne_x, ho_xa, ho_xk, ho_xi, hb⟩
  have s3 : w2.heap.size ≤ w3.heap.size := (by have := hb.size; (try simp at this); omega)
  have z3_0 : w.heap.size < w3.heap.size := (by omega)
  have z3_1 : w.heap.size + 1 < w3.heap.size := (by omega)
  have z3_2 : g2 < w3.heap.size := (by omega)
  have q3_0 : w3.cell? ⟨w.heap.size, 0, none⟩ = some (.int .i64 u) := ext_cell hb q2_0
  have q3_1 : w3.cell? ⟨w.heap.size, 1, none⟩ = some (.int .i64 lo) := ext_cell hb q2_1
  have q3_2 : w3.cell? ⟨w.heap.size, 2, none⟩ = some (.slice A n c) := ext_cell hb q2_2
  have q3_3 : w3.cell? ⟨w.heap.size, 3, none⟩ = some (.slice K k kc) := ext_cell hb q2_3
  have q3_4 : w3.cell? ⟨w.heap.size, 4, none⟩ = some (.slice I m ic) := ext_cell hb q2_4
  have q3_5 : w3.cell? ⟨w.heap.size, 5, none⟩ = some (.int .i64 be) := ext_cell hb q2_5
  have q3_6 : w3.cell? ⟨w.heap.size, 6, none⟩ = some (.int .i64 gu) := ext_cell hb q2_6
  have q3_7 : w3.cell? ⟨w.heap.size + 1, 0, none⟩ = some (.int .i64 kd) := ext_cell hb q2_7
  have q3_8 : w3.cell? ⟨w.heap.size + 1, 1, none⟩ = some (.int .i64 v) := ext_cell hb q2_8
  have q3_9 : w3.cell? ⟨g2, 0, none⟩ = some (.int .i64 U) := ext_cell hb p2_0
  have q3_10 : w3.cell? ⟨g2, 1, none⟩ = some (.int .i64 LO) := ext_cell hb p2_1
  have q3_11 : w3.cell? ⟨g2, 2, none⟩ = some (.slice Awa N cwa) := ext_cell hb p2_2
  have q3_12 : w3.cell? ⟨g2, 3, none⟩ = some (.slice Awk NK cwk) := ext_cell hb p2_3
  have q3_13 : w3.cell? ⟨g2, 4, none⟩ = some (.slice Awi NI cwi) := ext_cell hb p2_4
  have q3_14 : w3.cell? ⟨g2, 5, none⟩ = some (.int .i64 BE) := ext_cell hb p2_5
  have q3_15 : w3.cell? ⟨g2, 6, none⟩ = some (.int .i64 GU) := ext_cell hb p2_6
  have b3 := Lib.hid (ext_trans b2.out hb)
  have t3 : w.heap.size ≤ w3.heap.size := b3.out.size
  have o3_wa := Lib.hid (own_ext oc_wa.out hb)
  have o3_wk := Lib.hid (own_ext oc_wk.out hb)
  have o3_wi := Lib.hid (own_ext oc_wi.out hb)
  clear q2_0 q2_1 q2_2 q2_3 q2_4 q2_5 q2_6 q2_7 q2_8 p2_0 p2_1 p2_2 p2_3 p2_4 p2_5 p2_6
  have oc_xa := Lib.hid (own_base (base' := w2.heap.size + 0) ho_xa (by simp))
  clear ho_xa
  have oc_xk := Lib.hid (own_base (base' := w2.heap.size + 0) ho_xk (by simp))
  clear ho_xk
  have oc_xi := Lib.hid (own_base (base' := w2.heap.size + 0) ho_xi (by simp))
  clear ho_xi
  clear hb
  have Hhne_x := Lib.hid hne_x
  clear hne_x
  obtain ⟨w4, hw4⟩ : ∃ x : World, x = (w3.alloc (.cells #[.int .i64 u, .int .i64 lo, .slice Axa n cxa, .slice Axk k cxk, .slice Axi m cxi, .int .i64 be, .int .i64 gu] 47)) := ⟨_, rfl⟩
  have hb : Below (w3.alloc (.cells #[.int .i64 u, .int .i64 lo, .slice Axa n cxa, .slice Axk k cxk, .slice Axi m cxi, .int .i64 be, .int .i64 gu] 47)).heap.size (w3.alloc (.cells #[.int .i64 u, .int .i64 lo, .slice Axa n cxa, .slice Axk k cxk, .slice Axi m cxi, .int .i64 be, .int .i64 gu] 47)) w4 := by rw [hw4]; exact ext_refl _
  have s4 : w3.heap.size + 1 ≤ w4.heap.size := (by have := hb.size; (try simp at this); omega)
  have z4_0 : w.heap.size < w4.heap.size := (by omega)
  have z4_1 : w.heap.size + 1 < w4.heap.size := (by omega)
  have z4_2 : g2 < w4.heap.size := (by omega)
  have z4_3 : w3.heap.size < w4.heap.size := (by omega)
  have q4_0 : w4.cell? ⟨w.heap.size, 0, none⟩ = some (.int .i64 u) := ext_cell hb (cell_old q3_0 _)
  have q4_1 : w4.cell? ⟨w.heap.size, 1, none⟩ = some (.int .i64 lo) := ext_cell hb (cell_old q3_1 _)
  have q4_2 : w4.cell? ⟨w.heap.size, 2, none⟩ = some (.slice A n c) := ext_cell hb (cell_old q3_2 _)
  have q4_3 : w4.cell? ⟨w.heap.size, 3, none⟩ = some (.slice K k kc) := ext_cell hb (cell_old q3_3 _)
  have q4_4 : w4.cell? ⟨w.heap.size, 4, none⟩ = some (.slice I m ic) := ext_cell hb (cell_old q3_4 _)
  have q4_5 : w4.cell? ⟨w.heap.size, 5, none⟩ = some (.int .i64 be) := ext_cell hb (cell_old q3_5 _)
  have q4_6 : w4.cell? ⟨w.heap.size, 6, none⟩ = some (.int .i64 gu) := ext_cell hb (cell_old q3_6 _)
  have q4_7 : w4.cell? ⟨w.heap.size + 1, 0, none⟩ = some (.int .i64 kd) := ext_cell hb (cell_old q3_7 _)
  have q4_8 : w4.cell? ⟨w.heap.size + 1, 1, none⟩ = some (.int .i64 v) := ext_cell hb (cell_old q3_8 _)
  have q4_9 : w4.cell? ⟨g2, 0, none⟩ = some (.int .i64 U) := ext_cell hb (cell_old q3_9 _)
  have q4_10 : w4.cell? ⟨g2, 1, none⟩ = some (.int .i64 LO) := ext_cell hb (cell_old q3_10 _)
  have q4_11 : w4.cell? ⟨g2, 2, none⟩ = some (.slice Awa N cwa) := ext_cell hb (cell_old q3_11 _)
  have q4_12 : w4.cell? ⟨g2, 3, none⟩ = some (.slice Awk NK cwk) := ext_cell hb (cell_old q3_12 _)
  have q4_13 : w4.cell? ⟨g2, 4, none⟩ = some (.slice Awi NI cwi) := ext_cell hb (cell_old q3_13 _)
  have q4_14 : w4.cell? ⟨g2, 5, none⟩ = some (.int .i64 BE) := ext_cell hb (cell_old q3_14 _)
  have q4_15 : w4.cell? ⟨g2, 6, none⟩ = some (.int .i64 GU) := ext_cell hb (cell_old q3_15 _)
  have q4_16 : w4.cell? ⟨w3.heap.size, 0, none⟩ = some (.int .i64 u) := ext_cell hb (by simp [go_sem])
  have q4_17 : w4.cell? ⟨w3.heap.size, 1, none⟩ = some (.int .i64 lo) := ext_cell hb (by simp [go_sem])
  have q4_18 : w4.cell? ⟨w3.heap.size, 2, none⟩ = some (.slice Axa n cxa) := ext_cell hb (by simp [go_sem])
  have q4_19 : w4.cell? ⟨w3.heap.size, 3, none⟩ = some (.slice Axk k cxk) := ext_cell hb (by simp [go_sem])
  have q4_20 : w4.cell? ⟨w3.heap.size, 4, none⟩ = some (.slice Axi m cxi) := ext_cell hb (by simp [go_sem])
  have q4_21 : w4.cell? ⟨w3.heap.size, 5, none⟩ = some (.int .i64 be) := ext_cell hb (by simp [go_sem])
  have q4_22 : w4.cell? ⟨w3.heap.size, 6, none⟩ = some (.int .i64 gu) := ext_cell hb (by simp [go_sem])
  have b4 := Lib.hid (ext_trans (ext_alloc b3.out _) hb)
  have t4 : w.heap.size ≤ w4.heap.size := b4.out.size
  have o4_wa := Lib.hid (own_ext (o3_wa.out.alloc _) hb)
  have o4_wk := Lib.hid (own_ext (o3_wk.out.alloc _) hb)
  have o4_wi := Lib.hid (own_ext (o3_wi.out.alloc _) hb)
  have o4_xa := Lib.hid (own_ext (oc_xa.out.alloc _) hb)
  have o4_xk := Lib.hid (own_ext (oc_xk.out.alloc _) hb)
  have o4_xi := Lib.hid (own_ext (oc_xi.out.alloc _) hb)
  clear q3_0 q3_1 q3_2 q3_3 q3_4 q3_5 q3_6 q3_7 q3_8 q3_9 q3_10 q3_11 q3_12 q3_13 q3_14 q3_15
  clear hb
  go_wp2_with fail
  rw [← hw4]
  clear hw4
  have B0 := Lib.hid b4.out
  have OXa := Lib.hid o4_xa.out
  have OXk := Lib.hid o4_xk.out
  have OXi := Lib.hid o4_xi.out
  go_upto_region 7 with fail
  refine wp_region_left (by kernel_rfl) (by kernel_rfl) [9, 10, 31, 32, 33, 34, 35, 36, 37] SmBU (by kernel_rfl) (by decide) 38 (by kernel_rfl) (by simp) (fun a0 => a0.eval (.tmp 8) = .pointer (some ⟨w3.heap.size, 0, none⟩) ∧ a0.eval (.tmp 3) = .pointer (some ⟨w.heap.size + 1, 0, none⟩)) ⟨by kernel_rfl, by kernel_rfl⟩ (fun _ wx => Below w4.heap.size w4 wx) (fun wx wy => Below wx.heap.size wx wy) 8 (KeepW 47) (fun j vs wx => SmB w4.heap.size u lo n l k cl m im be gu kd v Axa cxa Axk cxk Axi cxi U LO N L NK CL NI IM BE GU ok vs wx j) ((ext_refl w4).drew) (fun j vs us w w' h ha hb => SmB_ext h ha hb) (fun j vs us w w' hne h ha hb => SmB_set h ha hne hb) ?_ ?_
  · intro a0 hE i o ho Qx vs wx b KX kk HBw hdep b0 bk HK
    repeat (rename_i hz9; clear hz9)
    obtain ⟨q8, q3⟩ := hE
    have hi : i < 10 := by
      rcases Nat.lt_or_ge i 10 with h | h
      · exact h
      · rw [Array.getElem?_eq_none (by simpa using h)] at ho; cases ho
    have HBX := Lib.hid HBw
    have hsz := HBw.size
    clear HBw
    rcases (show i = 0 ∨ i = 1 ∨ i = 2 ∨ i = 3 ∨ i = 4 ∨ i = 5 ∨ i = 6 ∨ i = 7 ∨ i = 8 ∨ i = 9 by omega) with rfl | rfl | rfl | rfl | rfl | rfl | rfl | rfl | rfl | rfl
    · simp only [List.getElem?_toArray, List.getElem?_cons_succ, List.getElem?_cons_zero, Option.some.injEq] at ho
      subst ho
      have HKX := Lib.hid HK
      clear HK
      have p8 := (b0 8 (by decide)).trans q8
      have c7 := ext_cell HBX.out q4_7
      have c8 := ext_cell HBX.out q4_8
      have c16 := ext_cell HBX.out q4_16
      have c17 := ext_cell HBX.out q4_17
      have c18 := ext_cell HBX.out q4_18
      have c19 := ext_cell HBX.out q4_19
      have c20 := ext_cell HBX.out q4_20
      have c21 := ext_cell HBX.out q4_21
      have c22 := ext_cell HBX.out q4_22
      have l1 : w.heap.size + 1 < wx.heap.size := Nat.lt_of_lt_of_le z4_1 hsz
      have l3 : w3.heap.size < wx.heap.size := Nat.lt_of_lt_of_le z4_3 hsz
      clear b0 bk hdep
      go_simp
      exact HKX.out _ _ HBX.out (by rw [if_neg (by decide)]; exact ext_refl _) (upd_same _ _ _)
    · simp only [List.getElem?_toArray, List.getElem?_cons_succ, List.getElem?_cons_zero, Option.some.injEq] at ho
      subst ho
      have HKX := Lib.hid HK
      clear HK
      have p3 := (b0 3 (by decide)).trans q3
      have c7 := ext_cell HBX.out q4_7
      have c8 := ext_cell HBX.out q4_8
      have c16 := ext_cell HBX.out q4_16
      have c17 := ext_cell HBX.out q4_17
      have c18 := ext_cell HBX.out q4_18
      have c19 := ext_cell HBX.out q4_19
      have c20 := ext_cell HBX.out q4_20
      have c21 := ext_cell HBX.out q4_21
      have c22 := ext_cell HBX.out q4_22
      have l1 : w.heap.size + 1 < wx.heap.size := Nat.lt_of_lt_of_le z4_1 hsz
      have l3 : w3.heap.size < wx.heap.size := Nat.lt_of_lt_of_le z4_3 hsz
      clear b0 bk hdep
      go_simp
      exact HKX.out _ _ HBX.out (by rw [if_neg (by decide)]; exact ext_refl _) (upd_same _ _ _)
    · simp only [List.getElem?_toArray, List.getElem?_cons_succ, List.getElem?_cons_zero, Option.some.injEq] at ho
      subst ho
      have HKX := Lib.hid HK
      clear HK
      have e1 : vs 33 = .agg #[.int .i64 kd, .int .i64 v] := (hdep 1 (by kernel_rfl))
      have r1 := (bk 33 (by decide)).trans e1
      have E1 := Lib.hid e1
      clear e1
      clear b0 bk hdep
      go_simp
      refine (toMindStep_any ⟨kd, v⟩ _).mono ?_
      rintro e w' ⟨rfl, hb⟩
      go_simp
      exact HKX.out _ _ (ext_trans HBX.out hb) (by rw [if_neg (by decide)]; exact hb) (upd_same _ _ _)
    · simp only [List.getElem?_toArray, List.getElem?_cons_succ, List.getElem?_cons_zero, Option.some.injEq] at ho
      subst ho
      have HKX := Lib.hid HK
      clear HK
      have e0 : vs 32 = mdV u lo Axa n cxa Axk k cxk Axi m cxi be gu := (hdep 0 (by kernel_rfl))
      have e2 : vs 34 = .agg #[.int .i64 kd, .int .i64 v] := (hdep 2 (by kernel_rfl))
      have r0 := (bk 32 (by decide)).trans e0
      have r2 := (bk 34 (by decide)).trans e2
      have E0 := Lib.hid e0
      clear e0
      have E2 := Lib.hid e2
      clear e2
      clear b0 bk hdep
      go_simp
      refine (HB.out _ Axa cxa Axk cxk Axi cxi (Reads.of_own (own_ext OXa.out HBX.out)) (Reads.of_own (own_ext OXk.out HBX.out)) (Reads.of_own (own_ext OXi.out HBX.out))).mono ?_
      rintro e w' ⟨Ara, cra, Ark, crk, Ari, cri, rfl, n0, n1, n2, n3, hb⟩
      go_simp
      exact HKX.out _ _ (ext_trans HBX.out hb) (by rw [if_neg (by decide)]; exact hb) (⟨Ara, cra, Ark, crk, Ari, cri, upd_same _ _ _, n0, own_base n1 hsz, own_base n2 hsz, own_base n3 hsz⟩)
    · simp only [List.getElem?_toArray, List.getElem?_cons_succ, List.getElem?_cons_zero, Option.some.injEq] at ho
      subst ho
      have HKX := Lib.hid HK
      clear HK
      obtain ⟨Ara, cra, Ark, crk, Ari, cri, e3, k3_0, k3_1, k3_2, k3_3⟩ := (hdep 3 (by kernel_rfl))
      have r3 := (bk 35 (by decide)).trans e3
      have E3 := Lib.hid e3
      clear e3
      have K3_0 := Lib.hid k3_0
      clear k3_0
      have K3_1 := Lib.hid k3_1
      clear k3_1
      have K3_2 := Lib.hid k3_2
      clear k3_2
      have K3_3 := Lib.hid k3_3
      clear k3_3
      clear b0 bk hdep
      go_simp
      exact HKX.out _ _ HBX.out (by rw [if_neg (by decide)]; exact ext_refl _) (⟨Ara, cra, Ark, crk, Ari, cri, upd_same _ _ _, K3_0.out, K3_1.out, K3_2.out, K3_3.out⟩)
    · simp only [List.getElem?_toArray, List.getElem?_cons_succ, List.getElem?_cons_zero, Option.some.injEq] at ho
      subst ho
      have HKX := Lib.hid HK
      clear HK
      obtain ⟨Ara, cra, Ark, crk, Ari, cri, e4, k4_0, k4_1, k4_2, k4_3⟩ := (hdep 4 (by kernel_rfl))
      have r4 := (bk 31 (by decide)).trans e4
      have E4 := Lib.hid e4
      clear e4
      have K4_0 := Lib.hid k4_0
      clear k4_0
      have K4_1 := Lib.hid k4_1
      clear k4_1
      have K4_2 := Lib.hid k4_2
      clear k4_2
      have K4_3 := Lib.hid k4_3
      clear k4_3
      clear b0 bk hdep
      go_simp
      exact HKX.out _ _ HBX.out (by rw [if_neg (by decide)]; exact ext_refl _) (⟨Ara, cra, Ark, crk, Ari, cri, upd_same _ _ _, K4_0.out, K4_1.out, K4_2.out, K4_3.out⟩)
    · simp only [List.getElem?_toArray, List.getElem?_cons_succ, List.getElem?_cons_zero, Option.some.injEq] at ho
      subst ho
      have HKX := Lib.hid HK
      clear HK
      obtain ⟨Ara, cra, Ark, crk, Ari, cri, e4, k4_0, k4_1, k4_2, k4_3⟩ := (hdep 4 (by kernel_rfl))
      have r4 := (bk 31 (by decide)).trans e4
      have E4 := Lib.hid e4
      clear e4
      have K4_0 := Lib.hid k4_0
      clear k4_0
      have K4_1 := Lib.hid k4_1
      clear k4_1
      have K4_2 := Lib.hid k4_2
      clear k4_2
      have K4_3 := Lib.hid k4_3
      clear k4_3
      clear b0 bk hdep
      go_simp
      exact HKX.out _ _ HBX.out (by rw [if_neg (by decide)]; exact ext_refl _) (⟨Ara, cra, Ark, crk, Ari, cri, upd_same _ _ _⟩)
    · simp only [List.getElem?_toArray, List.getElem?_cons_succ, List.getElem?_cons_zero, Option.some.injEq] at ho
      subst ho
      have HKX := Lib.hid HK
      clear HK
      clear b0 bk hdep
      go_simp
      exact HKX.out _ _ (ext_alloc HBX.out _) (by rw [if_neg (by decide)]; exact ext_alloc (ext_refl _) _) ⟨wx.heap.size, upd_same _ _ _, hsz, _, _, _, _, _, _, _, Blk.born _ _ _ rfl⟩
    · simp only [List.getElem?_toArray, List.getElem?_cons_succ, List.getElem?_cons_zero, Option.some.injEq] at ho
      subst ho
      have HKX := Lib.hid HK
      clear HK
      obtain ⟨g, e7, hs7, c0, c1, c2, c3, c4, c5, c6, hB7⟩ := (hdep 7 (by kernel_rfl))
      obtain ⟨Ara, cra, Ark, crk, Ari, cri, e5, k5_0, k5_1, k5_2, k5_3⟩ := (hdep 5 (by kernel_rfl))
      have r7 := (bk 9 (by decide)).trans e7
      have r5 := (bk 36 (by decide)).trans e5
      have E7 := Lib.hid e7
      clear e7
      have E5 := Lib.hid e5
      clear e5
      have K5_0 := Lib.hid k5_0
      clear k5_0
      have K5_1 := Lib.hid k5_1
      clear k5_1
      have K5_2 := Lib.hid k5_2
      clear k5_2
      have K5_3 := Lib.hid k5_3
      clear k5_3
      have hlt := hB7.lt
      obtain ⟨y0, y1, y2, y3, y4, y5, y6⟩ := hB7.q7
      obtain ⟨z0, z1, z2, z3, z4, z5, z6⟩ := hB7.z7
      have HBB := Lib.hid hB7
      clear hB7 b0 bk hdep
      go_simp
      have HKW := Lib.hid (keep7 (a0 := .int .i64 U) (a1 := .int .i64 LO) (a2 := .slice Ara N cra) (a3 := .slice Ark NK crk) (a4 := .slice Ari NI cri) (a5 := .int .i64 BE) (a6 := .int .i64 GU) HBB.out)
      exact HKX.out undef _ (bel7 HBX.out hs7) (by rw [if_pos rfl]; exact HKW.out) ⟨g, Ara, cra, Ark, crk, Ari, cri, E7.out, hs7, put7 HBB.out, K5_0.out, HKW.out.own K5_1.out (by decide), HKW.out.own K5_2.out (by decide), HKW.out.own K5_3.out (by decide)⟩
    · simp only [List.getElem?_toArray, List.getElem?_cons_succ, List.getElem?_cons_zero, Option.some.injEq] at ho
      subst ho
      have HKX := Lib.hid HK
      clear HK
      obtain ⟨Ara, cra, Ark, crk, Ari, cri, e6⟩ := (hdep 6 (by kernel_rfl))
      have r6 := (bk 37 (by decide)).trans e6
      have E6 := Lib.hid e6
      clear e6
      clear b0 bk hdep
      go_simp
      exact HKX.out _ _ HBX.out (by rw [if_neg (by decide)]; exact ext_refl _) (⟨Ara, cra, Ark, crk, Ari, cri, upd_same _ _ _⟩)
  intro vs wx kk hb hall
  obtain ⟨g5, Aga, cga, Agk, cgk, Agi, cgi, e1, hgl5, hB, hne_g, ho_ga, ho_gk, ho_gi⟩ := hall 8 (by decide)
  obtain ⟨_, _, _, _, _, _, e2⟩ := hall 9 (by decide)
  clear hall
  simp only [sl]
  rw [e1, e2]
  clear e1 e2
  obtain ⟨w5, hw5⟩ : ∃ x : World, x = wx := ⟨_, rfl⟩
  subst hw5
  have Hhne_g := Lib.hid hne_g
  clear hne_g
  have HB5 := Lib.hid hB
  have hgs5 := hB.lt
  have hn_ga := Lib.hid (own_nbT ho_ga hB (by decide))
  have hn_gk := Lib.hid (own_nbT ho_gk hB (by decide))
  have hn_gi := Lib.hid (own_nbT ho_gi hB (by decide))
  have s5 : w4.heap.size ≤ w5.heap.size := (by have := hb.size; (try simp at this); omega)
  have z5_0 : w.heap.size < w5.heap.size := (by omega)
  have z5_1 : w.heap.size + 1 < w5.heap.size := (by omega)
  have z5_2 : g2 < w5.heap.size := (by omega)
  have z5_3 : w3.heap.size < w5.heap.size := (by omega)
  have q5_0 : w5.cell? ⟨w.heap.size, 0, none⟩ = some (.int .i64 u) := ext_cell hb q4_0
  have q5_1 : w5.cell? ⟨w.heap.size, 1, none⟩ = some (.int .i64 lo) := ext_cell hb q4_1
  have q5_2 : w5.cell? ⟨w.heap.size, 2, none⟩ = some (.slice A n c) := ext_cell hb q4_2
  have q5_3 : w5.cell? ⟨w.heap.size, 3, none⟩ = some (.slice K k kc) := ext_cell hb q4_3
  have q5_4 : w5.cell? ⟨w.heap.size, 4, none⟩ = some (.slice I m ic) := ext_cell hb q4_4
  have q5_5 : w5.cell? ⟨w.heap.size, 5, none⟩ = some (.int .i64 be) := ext_cell hb q4_5
  have q5_6 : w5.cell? ⟨w.heap.size, 6, none⟩ = some (.int .i64 gu) := ext_cell hb q4_6
  have q5_7 : w5.cell? ⟨w.heap.size + 1, 0, none⟩ = some (.int .i64 kd) := ext_cell hb q4_7
  have q5_8 : w5.cell? ⟨w.heap.size + 1, 1, none⟩ = some (.int .i64 v) := ext_cell hb q4_8
  have q5_9 : w5.cell? ⟨g2, 0, none⟩ = some (.int .i64 U) := ext_cell hb q4_9
  have q5_10 : w5.cell? ⟨g2, 1, none⟩ = some (.int .i64 LO) := ext_cell hb q4_10
  have q5_11 : w5.cell? ⟨g2, 2, none⟩ = some (.slice Awa N cwa) := ext_cell hb q4_11
  have q5_12 : w5.cell? ⟨g2, 3, none⟩ = some (.slice Awk NK cwk) := ext_cell hb q4_12
  have q5_13 : w5.cell? ⟨g2, 4, none⟩ = some (.slice Awi NI cwi) := ext_cell hb q4_13
  have q5_14 : w5.cell? ⟨g2, 5, none⟩ = some (.int .i64 BE) := ext_cell hb q4_14
  have q5_15 : w5.cell? ⟨g2, 6, none⟩ = some (.int .i64 GU) := ext_cell hb q4_15
  have q5_16 : w5.cell? ⟨w3.heap.size, 0, none⟩ = some (.int .i64 u) := ext_cell hb q4_16
  have q5_17 : w5.cell? ⟨w3.heap.size, 1, none⟩ = some (.int .i64 lo) := ext_cell hb q4_17
  have q5_18 : w5.cell? ⟨w3.heap.size, 2, none⟩ = some (.slice Axa n cxa) := ext_cell hb q4_18
  have q5_19 : w5.cell? ⟨w3.heap.size, 3, none⟩ = some (.slice Axk k cxk) := ext_cell hb q4_19
  have q5_20 : w5.cell? ⟨w3.heap.size, 4, none⟩ = some (.slice Axi m cxi) := ext_cell hb q4_20
  have q5_21 : w5.cell? ⟨w3.heap.size, 5, none⟩ = some (.int .i64 be) := ext_cell hb q4_21
  have q5_22 : w5.cell? ⟨w3.heap.size, 6, none⟩ = some (.int .i64 gu) := ext_cell hb q4_22
  have b5 := Lib.hid (ext_trans b4.out hb)
  have t5 : w.heap.size ≤ w5.heap.size := b5.out.size
  have o5_wa := Lib.hid (own_ext o4_wa.out hb)
  have o5_wk := Lib.hid (own_ext o4_wk.out hb)
  have o5_wi := Lib.hid (own_ext o4_wi.out hb)
  have o5_xa := Lib.hid (own_ext o4_xa.out hb)
  have o5_xk := Lib.hid (own_ext o4_xk.out hb)
  have o5_xi := Lib.hid (own_ext o4_xi.out hb)
  clear q4_0 q4_1 q4_2 q4_3 q4_4 q4_5 q4_6 q4_7 q4_8 q4_9 q4_10 q4_11 q4_12 q4_13 q4_14 q4_15 q4_16 q4_17 q4_18 q4_19 q4_20 q4_21 q4_22
  obtain ⟨p5_0, p5_1, p5_2, p5_3, p5_4, p5_5, p5_6⟩ := HB5.out.q7
  have z5_4 : g5 < w5.heap.size := hgs5
  have oc_ga := Lib.hid ho_ga
  clear ho_ga
  have oc_gk := Lib.hid ho_gk
  clear ho_gk
  have oc_gi := Lib.hid ho_gi
  clear ho_gi
  clear hb hB B0
  go_wp2_with fail
  refine (eqMind_same U LO Aga Awa N cga cwa L Agk Awk NK cgk cwk CL Agi Awi NI cgi cwi IM BE GU _ hN hNK hNI (Reads.of_own oc_ga.out) (Reads.of_own o5_wa.out) (Reads.of_own oc_gk.out) (Reads.of_own o5_wk.out) (Reads.of_own oc_gi.out) (Reads.of_own o5_wi.out)).mono ?_
  rintro e w6 ⟨rfl, hb⟩
  have s6 : w5.heap.size ≤ w6.heap.size := (by have := hb.size; (try simp at this); omega)
  have z6_0 : w.heap.size < w6.heap.size := (by omega)
  have z6_1 : w.heap.size + 1 < w6.heap.size := (by omega)
  have z6_2 : g2 < w6.heap.size := (by omega)
  have z6_3 : w3.heap.size < w6.heap.size := (by omega)
  have z6_4 : g5 < w6.heap.size := (by omega)
  have q6_0 : w6.cell? ⟨w.heap.size, 0, none⟩ = some (.int .i64 u) := ext_cell hb q5_0
  have q6_1 : w6.cell? ⟨w.heap.size, 1, none⟩ = some (.int .i64 lo) := ext_cell hb q5_1
  have q6_2 : w6.cell? ⟨w.heap.size, 2, none⟩ = some (.slice A n c) := ext_cell hb q5_2
  have q6_3 : w6.cell? ⟨w.heap.size, 3, none⟩ = some (.slice K k kc) := ext_cell hb q5_3
  have q6_4 : w6.cell? ⟨w.heap.size, 4, none⟩ = some (.slice I m ic) := ext_cell hb q5_4
  have q6_5 : w6.cell? ⟨w.heap.size, 5, none⟩ = some (.int .i64 be) := ext_cell hb q5_5
  have q6_6 : w6.cell? ⟨w.heap.size, 6, none⟩ = some (.int .i64 gu) := ext_cell hb q5_6
  have q6_7 : w6.cell? ⟨w.heap.size + 1, 0, none⟩ = some (.int .i64 kd) := ext_cell hb q5_7
  have q6_8 : w6.cell? ⟨w.heap.size + 1, 1, none⟩ = some (.int .i64 v) := ext_cell hb q5_8
  have q6_9 : w6.cell? ⟨g2, 0, none⟩ = some (.int .i64 U) := ext_cell hb q5_9
  have q6_10 : w6.cell? ⟨g2, 1, none⟩ = some (.int .i64 LO) := ext_cell hb q5_10
  have q6_11 : w6.cell? ⟨g2, 2, none⟩ = some (.slice Awa N cwa) := ext_cell hb q5_11
  have q6_12 : w6.cell? ⟨g2, 3, none⟩ = some (.slice Awk NK cwk) := ext_cell hb q5_12
  have q6_13 : w6.cell? ⟨g2, 4, none⟩ = some (.slice Awi NI cwi) := ext_cell hb q5_13
  have q6_14 : w6.cell? ⟨g2, 5, none⟩ = some (.int .i64 BE) := ext_cell hb q5_14
  have q6_15 : w6.cell? ⟨g2, 6, none⟩ = some (.int .i64 GU) := ext_cell hb q5_15
  have q6_16 : w6.cell? ⟨w3.heap.size, 0, none⟩ = some (.int .i64 u) := ext_cell hb q5_16
  have q6_17 : w6.cell? ⟨w3.heap.size, 1, none⟩ = some (.int .i64 lo) := ext_cell hb q5_17
  have q6_18 : w6.cell? ⟨w3.heap.size, 2, none⟩ = some (.slice Axa n cxa) := ext_cell hb q5_18
  have q6_19 : w6.cell? ⟨w3.heap.size, 3, none⟩ = some (.slice Axk k cxk) := ext_cell hb q5_19
  have q6_20 : w6.cell? ⟨w3.heap.size, 4, none⟩ = some (.slice Axi m cxi) := ext_cell hb q5_20
  have q6_21 : w6.cell? ⟨w3.heap.size, 5, none⟩ = some (.int .i64 be) := ext_cell hb q5_21
  have q6_22 : w6.cell? ⟨w3.heap.size, 6, none⟩ = some (.int .i64 gu) := ext_cell hb q5_22
  have q6_23 : w6.cell? ⟨g5, 0, none⟩ = some (.int .i64 U) := ext_cell hb p5_0
  have q6_24 : w6.cell? ⟨g5, 1, none⟩ = some (.int .i64 LO) := ext_cell hb p5_1
  have q6_25 : w6.cell? ⟨g5, 2, none⟩ = some (.slice Aga N cga) := ext_cell hb p5_2
  have q6_26 : w6.cell? ⟨g5, 3, none⟩ = some (.slice Agk NK cgk) := ext_cell hb p5_3
  have q6_27 : w6.cell? ⟨g5, 4, none⟩ = some (.slice Agi NI cgi) := ext_cell hb p5_4
  have q6_28 : w6.cell? ⟨g5, 5, none⟩ = some (.int .i64 BE) := ext_cell hb p5_5
  have q6_29 : w6.cell? ⟨g5, 6, none⟩ = some (.int .i64 GU) := ext_cell hb p5_6
  have b6 := Lib.hid (ext_trans b5.out hb)
  have t6 : w.heap.size ≤ w6.heap.size := b6.out.size
  have o6_wa := Lib.hid (own_ext o5_wa.out hb)
  have o6_wk := Lib.hid (own_ext o5_wk.out hb)
  have o6_wi := Lib.hid (own_ext o5_wi.out hb)
  have o6_xa := Lib.hid (own_ext o5_xa.out hb)
  have o6_xk := Lib.hid (own_ext o5_xk.out hb)
  have o6_xi := Lib.hid (own_ext o5_xi.out hb)
  have o6_ga := Lib.hid (own_ext oc_ga.out hb)
  have o6_gk := Lib.hid (own_ext oc_gk.out hb)
  have o6_gi := Lib.hid (own_ext oc_gi.out hb)
  clear q5_0 q5_1 q5_2 q5_3 q5_4 q5_5 q5_6 q5_7 q5_8 q5_9 q5_10 q5_11 q5_12 q5_13 q5_14 q5_15 q5_16 q5_17 q5_18 q5_19 q5_20 q5_21 q5_22 p5_0 p5_1 p5_2 p5_3 p5_4 p5_5 p5_6
  clear hb
  go_upto_region 10 with fail
  go_cut [51] (fun s51 wx => s51 = .bool false ∧ Below w6.heap.size w6 wx)
  case first =>
    go_region_held3 (fun w' => w'.cell? ⟨w.heap.size, 0, none⟩ = some (.int .i64 u) ∧ w'.cell? ⟨w.heap.size, 1, none⟩ = some (.int .i64 lo) ∧ w'.cell? ⟨w.heap.size, 2, none⟩ = some (.slice A n c) ∧ w'.cell? ⟨w.heap.size, 3, none⟩ = some (.slice K k kc) ∧ w'.cell? ⟨w.heap.size, 4, none⟩ = some (.slice I m ic) ∧ w'.cell? ⟨w.heap.size, 5, none⟩ = some (.int .i64 be) ∧ w'.cell? ⟨w.heap.size, 6, none⟩ = some (.int .i64 gu) ∧ w'.cell? ⟨w.heap.size + 1, 0, none⟩ = some (.int .i64 kd) ∧ w'.cell? ⟨w.heap.size + 1, 1, none⟩ = some (.int .i64 v) ∧ w'.cell? ⟨g2, 0, none⟩ = some (.int .i64 U) ∧ w'.cell? ⟨g2, 1, none⟩ = some (.int .i64 LO) ∧ w'.cell? ⟨g2, 2, none⟩ = some (.slice Awa N cwa) ∧ w'.cell? ⟨g2, 3, none⟩ = some (.slice Awk NK cwk) ∧ w'.cell? ⟨g2, 4, none⟩ = some (.slice Awi NI cwi) ∧ w'.cell? ⟨g2, 5, none⟩ = some (.int .i64 BE) ∧ w'.cell? ⟨g2, 6, none⟩ = some (.int .i64 GU) ∧ w'.cell? ⟨w3.heap.size, 0, none⟩ = some (.int .i64 u) ∧ w'.cell? ⟨w3.heap.size, 1, none⟩ = some (.int .i64 lo) ∧ w'.cell? ⟨w3.heap.size, 2, none⟩ = some (.slice Axa n cxa) ∧ w'.cell? ⟨w3.heap.size, 3, none⟩ = some (.slice Axk k cxk) ∧ w'.cell? ⟨w3.heap.size, 4, none⟩ = some (.slice Axi m cxi) ∧ w'.cell? ⟨w3.heap.size, 5, none⟩ = some (.int .i64 be) ∧ w'.cell? ⟨w3.heap.size, 6, none⟩ = some (.int .i64 gu) ∧ w'.cell? ⟨g5, 0, none⟩ = some (.int .i64 U) ∧ w'.cell? ⟨g5, 1, none⟩ = some (.int .i64 LO) ∧ w'.cell? ⟨g5, 2, none⟩ = some (.slice Aga N cga) ∧ w'.cell? ⟨g5, 3, none⟩ = some (.slice Agk NK cgk) ∧ w'.cell? ⟨g5, 4, none⟩ = some (.slice Agi NI cgi) ∧ w'.cell? ⟨g5, 5, none⟩ = some (.int .i64 BE) ∧ w'.cell? ⟨g5, 6, none⟩ = some (.int .i64 GU)) (first | (go_split_ands; ((repeat' refine And.intro ?_ ?_) <;> with_reducible (repeat (first | assumption | refine cell_drew ?_ | refine cell_old ?_ _))))) (first | (go_at_call 28; refine (toMind_any u lo A n c l K k kc cl I m ic im be gu _ hn hk hm ((H.out.ext (ext_drew b6.out) (Nat.le_refl _)).more (by first | omega | (simp; omega) | (simp <;> omega))) ((HC.out.ext (ext_drew b6.out) (Nat.le_refl _)).more (by first | omega | (simp; omega) | (simp <;> omega))) ((HI.out.ext (ext_drew b6.out) (Nat.le_refl _)).more (by first | omega | (simp; omega) | (simp <;> omega)))).mono ?_; rintro e w' ⟨Aya, cya, Ayk, cyk, Ayi, cyi, rfl, _, hoya, hoyk, hoyi, hb⟩; have hoya := Lib.hid hoya; have hoyk := Lib.hid hoyk; have hoyi := Lib.hid hoyi; have hbY := Lib.hid hb; obtain ⟨hc, hf⟩ := bcell hb; have k0 : w'.cell? ⟨w.heap.size, 0, none⟩ = some (.int .i64 u) := ext_cell hb (by with_reducible (repeat (first | assumption | refine cell_drew ?_))); have k1 : w'.cell? ⟨w.heap.size, 1, none⟩ = some (.int .i64 lo) := ext_cell hb (by with_reducible (repeat (first | assumption | refine cell_drew ?_))); have k2 : w'.cell? ⟨w.heap.size, 2, none⟩ = some (.slice A n c) := ext_cell hb (by with_reducible (repeat (first | assumption | refine cell_drew ?_))); have k3 : w'.cell? ⟨w.heap.size, 3, none⟩ = some (.slice K k kc) := ext_cell hb (by with_reducible (repeat (first | assumption | refine cell_drew ?_))); have k4 : w'.cell? ⟨w.heap.size, 4, none⟩ = some (.slice I m ic) := ext_cell hb (by with_reducible (repeat (first | assumption | refine cell_drew ?_))); have k5 : w'.cell? ⟨w.heap.size, 5, none⟩ = some (.int .i64 be) := ext_cell hb (by with_reducible (repeat (first | assumption | refine cell_drew ?_))); have k6 : w'.cell? ⟨w.heap.size, 6, none⟩ = some (.int .i64 gu) := ext_cell hb (by with_reducible (repeat (first | assumption | refine cell_drew ?_))); have k7 : w'.cell? ⟨w.heap.size + 1, 0, none⟩ = some (.int .i64 kd) := ext_cell hb (by with_reducible (repeat (first | assumption | refine cell_drew ?_))); have k8 : w'.cell? ⟨w.heap.size + 1, 1, none⟩ = some (.int .i64 v) := ext_cell hb (by with_reducible (repeat (first | assumption | refine cell_drew ?_))); have k9 : w'.cell? ⟨g2, 0, none⟩ = some (.int .i64 U) := ext_cell hb (by with_reducible (repeat (first | assumption | refine cell_drew ?_))); have k10 : w'.cell? ⟨g2, 1, none⟩ = some (.int .i64 LO) := ext_cell hb (by with_reducible (repeat (first | assumption | refine cell_drew ?_))); have k11 : w'.cell? ⟨g2, 2, none⟩ = some (.slice Awa N cwa) := ext_cell hb (by with_reducible (repeat (first | assumption | refine cell_drew ?_))); have k12 : w'.cell? ⟨g2, 3, none⟩ = some (.slice Awk NK cwk) := ext_cell hb (by with_reducible (repeat (first | assumption | refine cell_drew ?_))); have k13 : w'.cell? ⟨g2, 4, none⟩ = some (.slice Awi NI cwi) := ext_cell hb (by with_reducible (repeat (first | assumption | refine cell_drew ?_))); have k14 : w'.cell? ⟨g2, 5, none⟩ = some (.int .i64 BE) := ext_cell hb (by with_reducible (repeat (first | assumption | refine cell_drew ?_))); have k15 : w'.cell? ⟨g2, 6, none⟩ = some (.int .i64 GU) := ext_cell hb (by with_reducible (repeat (first | assumption | refine cell_drew ?_))); have k16 : w'.cell? ⟨w3.heap.size, 0, none⟩ = some (.int .i64 u) := ext_cell hb (by with_reducible (repeat (first | assumption | refine cell_drew ?_))); have k17 : w'.cell? ⟨w3.heap.size, 1, none⟩ = some (.int .i64 lo) := ext_cell hb (by with_reducible (repeat (first | assumption | refine cell_drew ?_))); have k18 : w'.cell? ⟨w3.heap.size, 2, none⟩ = some (.slice Axa n cxa) := ext_cell hb (by with_reducible (repeat (first | assumption | refine cell_drew ?_))); have k19 : w'.cell? ⟨w3.heap.size, 3, none⟩ = some (.slice Axk k cxk) := ext_cell hb (by with_reducible (repeat (first | assumption | refine cell_drew ?_))); have k20 : w'.cell? ⟨w3.heap.size, 4, none⟩ = some (.slice Axi m cxi) := ext_cell hb (by with_reducible (repeat (first | assumption | refine cell_drew ?_))); have k21 : w'.cell? ⟨w3.heap.size, 5, none⟩ = some (.int .i64 be) := ext_cell hb (by with_reducible (repeat (first | assumption | refine cell_drew ?_))); have k22 : w'.cell? ⟨w3.heap.size, 6, none⟩ = some (.int .i64 gu) := ext_cell hb (by with_reducible (repeat (first | assumption | refine cell_drew ?_))); have k23 : w'.cell? ⟨g5, 0, none⟩ = some (.int .i64 U) := ext_cell hb (by with_reducible (repeat (first | assumption | refine cell_drew ?_))); have k24 : w'.cell? ⟨g5, 1, none⟩ = some (.int .i64 LO) := ext_cell hb (by with_reducible (repeat (first | assumption | refine cell_drew ?_))); have k25 : w'.cell? ⟨g5, 2, none⟩ = some (.slice Aga N cga) := ext_cell hb (by with_reducible (repeat (first | assumption | refine cell_drew ?_))); have k26 : w'.cell? ⟨g5, 3, none⟩ = some (.slice Agk NK cgk) := ext_cell hb (by with_reducible (repeat (first | assumption | refine cell_drew ?_))); have k27 : w'.cell? ⟨g5, 4, none⟩ = some (.slice Agi NI cgi) := ext_cell hb (by with_reducible (repeat (first | assumption | refine cell_drew ?_))); have k28 : w'.cell? ⟨g5, 5, none⟩ = some (.int .i64 BE) := ext_cell hb (by with_reducible (repeat (first | assumption | refine cell_drew ?_))); have k29 : w'.cell? ⟨g5, 6, none⟩ = some (.int .i64 GU) := ext_cell hb (by with_reducible (repeat (first | assumption | refine cell_drew ?_)))) | (go_at_call 31; refine (eqMind_same u lo Axa Aya n cxa cya l Axk Ayk k cxk cyk cl Axi Ayi m cxi cyi im be gu _ hn hk hm (Reads.of_own (own_ext (World.ownsRow.drew o6_xa.out) hbY.out)) (Reads.of_own hoya.out) (Reads.of_own (own_ext (World.ownsRow.drew o6_xk.out) hbY.out)) (Reads.of_own hoyk.out) (Reads.of_own (own_ext (World.ownsRow.drew o6_xi.out) hbY.out)) (Reads.of_own hoyi.out)).mono ?_; rintro e w' ⟨rfl, hb⟩; have hbZ := Lib.hid hb; obtain ⟨hc, hf⟩ := bcell hb; have k0 : w'.cell? ⟨w.heap.size, 0, none⟩ = some (.int .i64 u) := ext_cell hb (by with_reducible (repeat (first | assumption | refine cell_drew ?_))); have k1 : w'.cell? ⟨w.heap.size, 1, none⟩ = some (.int .i64 lo) := ext_cell hb (by with_reducible (repeat (first | assumption | refine cell_drew ?_))); have k2 : w'.cell? ⟨w.heap.size, 2, none⟩ = some (.slice A n c) := ext_cell hb (by with_reducible (repeat (first | assumption | refine cell_drew ?_))); have k3 : w'.cell? ⟨w.heap.size, 3, none⟩ = some (.slice K k kc) := ext_cell hb (by with_reducible (repeat (first | assumption | refine cell_drew ?_))); have k4 : w'.cell? ⟨w.heap.size, 4, none⟩ = some (.slice I m ic) := ext_cell hb (by with_reducible (repeat (first | assumption | refine cell_drew ?_))); have k5 : w'.cell? ⟨w.heap.size, 5, none⟩ = some (.int .i64 be) := ext_cell hb (by with_reducible (repeat (first | assumption | refine cell_drew ?_))); have k6 : w'.cell? ⟨w.heap.size, 6, none⟩ = some (.int .i64 gu) := ext_cell hb (by with_reducible (repeat (first | assumption | refine cell_drew ?_))); have k7 : w'.cell? ⟨w.heap.size + 1, 0, none⟩ = some (.int .i64 kd) := ext_cell hb (by with_reducible (repeat (first | assumption | refine cell_drew ?_))); have k8 : w'.cell? ⟨w.heap.size + 1, 1, none⟩ = some (.int .i64 v) := ext_cell hb (by with_reducible (repeat (first | assumption | refine cell_drew ?_))); have k9 : w'.cell? ⟨g2, 0, none⟩ = some (.int .i64 U) := ext_cell hb (by with_reducible (repeat (first | assumption | refine cell_drew ?_))); have k10 : w'.cell? ⟨g2, 1, none⟩ = some (.int .i64 LO) := ext_cell hb (by with_reducible (repeat (first | assumption | refine cell_drew ?_))); have k11 : w'.cell? ⟨g2, 2, none⟩ = some (.slice Awa N cwa) := ext_cell hb (by with_reducible (repeat (first | assumption | refine cell_drew ?_))); have k12 : w'.cell? ⟨g2, 3, none⟩ = some (.slice Awk NK cwk) := ext_cell hb (by with_reducible (repeat (first | assumption | refine cell_drew ?_))); have k13 : w'.cell? ⟨g2, 4, none⟩ = some (.slice Awi NI cwi) := ext_cell hb (by with_reducible (repeat (first | assumption | refine cell_drew ?_))); have k14 : w'.cell? ⟨g2, 5, none⟩ = some (.int .i64 BE) := ext_cell hb (by with_reducible (repeat (first | assumption | refine cell_drew ?_))); have k15 : w'.cell? ⟨g2, 6, none⟩ = some (.int .i64 GU) := ext_cell hb (by with_reducible (repeat (first | assumption | refine cell_drew ?_))); have k16 : w'.cell? ⟨w3.heap.size, 0, none⟩ = some (.int .i64 u) := ext_cell hb (by with_reducible (repeat (first | assumption | refine cell_drew ?_))); have k17 : w'.cell? ⟨w3.heap.size, 1, none⟩ = some (.int .i64 lo) := ext_cell hb (by with_reducible (repeat (first | assumption | refine cell_drew ?_))); have k18 : w'.cell? ⟨w3.heap.size, 2, none⟩ = some (.slice Axa n cxa) := ext_cell hb (by with_reducible (repeat (first | assumption | refine cell_drew ?_))); have k19 : w'.cell? ⟨w3.heap.size, 3, none⟩ = some (.slice Axk k cxk) := ext_cell hb (by with_reducible (repeat (first | assumption | refine cell_drew ?_))); have k20 : w'.cell? ⟨w3.heap.size, 4, none⟩ = some (.slice Axi m cxi) := ext_cell hb (by with_reducible (repeat (first | assumption | refine cell_drew ?_))); have k21 : w'.cell? ⟨w3.heap.size, 5, none⟩ = some (.int .i64 be) := ext_cell hb (by with_reducible (repeat (first | assumption | refine cell_drew ?_))); have k22 : w'.cell? ⟨w3.heap.size, 6, none⟩ = some (.int .i64 gu) := ext_cell hb (by with_reducible (repeat (first | assumption | refine cell_drew ?_))); have k23 : w'.cell? ⟨g5, 0, none⟩ = some (.int .i64 U) := ext_cell hb (by with_reducible (repeat (first | assumption | refine cell_drew ?_))); have k24 : w'.cell? ⟨g5, 1, none⟩ = some (.int .i64 LO) := ext_cell hb (by with_reducible (repeat (first | assumption | refine cell_drew ?_))); have k25 : w'.cell? ⟨g5, 2, none⟩ = some (.slice Aga N cga) := ext_cell hb (by with_reducible (repeat (first | assumption | refine cell_drew ?_))); have k26 : w'.cell? ⟨g5, 3, none⟩ = some (.slice Agk NK cgk) := ext_cell hb (by with_reducible (repeat (first | assumption | refine cell_drew ?_))); have k27 : w'.cell? ⟨g5, 4, none⟩ = some (.slice Agi NI cgi) := ext_cell hb (by with_reducible (repeat (first | assumption | refine cell_drew ?_))); have k28 : w'.cell? ⟨g5, 5, none⟩ = some (.int .i64 BE) := ext_cell hb (by with_reducible (repeat (first | assumption | refine cell_drew ?_))); have k29 : w'.cell? ⟨g5, 6, none⟩ = some (.int .i64 GU) := ext_cell hb (by with_reducible (repeat (first | assumption | refine cell_drew ?_)))))
    all_goals (go_wp2_with fail; go_meet; exact ⟨rfl, ext_trans (ext_trans (ext_drew (ext_refl _)) hbY.out) hbZ.out⟩)
  case rest =>
    obtain ⟨rfl, hb⟩ := hcut
    obtain ⟨w7, hw7⟩ : ∃ x : World, x = wc := ⟨_, rfl⟩
    subst hw7
    have s7 : w6.heap.size ≤ w7.heap.size := (by have := hb.size; (try simp at this); omega)
    have z7_0 : w.heap.size < w7.heap.size := (by omega)
    have z7_1 : w.heap.size + 1 < w7.heap.size := (by omega)
    have z7_2 : g2 < w7.heap.size := (by omega)
    have z7_3 : w3.heap.size < w7.heap.size := (by omega)
    have z7_4 : g5 < w7.heap.size := (by omega)
    have q7_0 : w7.cell? ⟨w.heap.size, 0, none⟩ = some (.int .i64 u) := ext_cell hb q6_0
    have q7_1 : w7.cell? ⟨w.heap.size, 1, none⟩ = some (.int .i64 lo) := ext_cell hb q6_1
    have q7_2 : w7.cell? ⟨w.heap.size, 2, none⟩ = some (.slice A n c) := ext_cell hb q6_2
    have q7_3 : w7.cell? ⟨w.heap.size, 3, none⟩ = some (.slice K k kc) := ext_cell hb q6_3
    have q7_4 : w7.cell? ⟨w.heap.size, 4, none⟩ = some (.slice I m ic) := ext_cell hb q6_4
    have q7_5 : w7.cell? ⟨w.heap.size, 5, none⟩ = some (.int .i64 be) := ext_cell hb q6_5
    have q7_6 : w7.cell? ⟨w.heap.size, 6, none⟩ = some (.int .i64 gu) := ext_cell hb q6_6
    have q7_7 : w7.cell? ⟨w.heap.size + 1, 0, none⟩ = some (.int .i64 kd) := ext_cell hb q6_7
    have q7_8 : w7.cell? ⟨w.heap.size + 1, 1, none⟩ = some (.int .i64 v) := ext_cell hb q6_8
    have q7_9 : w7.cell? ⟨g2, 0, none⟩ = some (.int .i64 U) := ext_cell hb q6_9
    have q7_10 : w7.cell? ⟨g2, 1, none⟩ = some (.int .i64 LO) := ext_cell hb q6_10
    have q7_11 : w7.cell? ⟨g2, 2, none⟩ = some (.slice Awa N cwa) := ext_cell hb q6_11
    have q7_12 : w7.cell? ⟨g2, 3, none⟩ = some (.slice Awk NK cwk) := ext_cell hb q6_12
    have q7_13 : w7.cell? ⟨g2, 4, none⟩ = some (.slice Awi NI cwi) := ext_cell hb q6_13
    have q7_14 : w7.cell? ⟨g2, 5, none⟩ = some (.int .i64 BE) := ext_cell hb q6_14
    have q7_15 : w7.cell? ⟨g2, 6, none⟩ = some (.int .i64 GU) := ext_cell hb q6_15
    have q7_16 : w7.cell? ⟨w3.heap.size, 0, none⟩ = some (.int .i64 u) := ext_cell hb q6_16
    have q7_17 : w7.cell? ⟨w3.heap.size, 1, none⟩ = some (.int .i64 lo) := ext_cell hb q6_17
    have q7_18 : w7.cell? ⟨w3.heap.size, 2, none⟩ = some (.slice Axa n cxa) := ext_cell hb q6_18
    have q7_19 : w7.cell? ⟨w3.heap.size, 3, none⟩ = some (.slice Axk k cxk) := ext_cell hb q6_19
    have q7_20 : w7.cell? ⟨w3.heap.size, 4, none⟩ = some (.slice Axi m cxi) := ext_cell hb q6_20
    have q7_21 : w7.cell? ⟨w3.heap.size, 5, none⟩ = some (.int .i64 be) := ext_cell hb q6_21
    have q7_22 : w7.cell? ⟨w3.heap.size, 6, none⟩ = some (.int .i64 gu) := ext_cell hb q6_22
    have q7_23 : w7.cell? ⟨g5, 0, none⟩ = some (.int .i64 U) := ext_cell hb q6_23
    have q7_24 : w7.cell? ⟨g5, 1, none⟩ = some (.int .i64 LO) := ext_cell hb q6_24
    have q7_25 : w7.cell? ⟨g5, 2, none⟩ = some (.slice Aga N cga) := ext_cell hb q6_25
    have q7_26 : w7.cell? ⟨g5, 3, none⟩ = some (.slice Agk NK cgk) := ext_cell hb q6_26
    have q7_27 : w7.cell? ⟨g5, 4, none⟩ = some (.slice Agi NI cgi) := ext_cell hb q6_27
    have q7_28 : w7.cell? ⟨g5, 5, none⟩ = some (.int .i64 BE) := ext_cell hb q6_28
    have q7_29 : w7.cell? ⟨g5, 6, none⟩ = some (.int .i64 GU) := ext_cell hb q6_29
    have b7 := Lib.hid (ext_trans b6.out hb)
    have t7 : w.heap.size ≤ w7.heap.size := b7.out.size
    have o7_wa := Lib.hid (own_ext o6_wa.out hb)
    have o7_wk := Lib.hid (own_ext o6_wk.out hb)
    have o7_wi := Lib.hid (own_ext o6_wi.out hb)
    have o7_xa := Lib.hid (own_ext o6_xa.out hb)
    have o7_xk := Lib.hid (own_ext o6_xk.out hb)
    have o7_xi := Lib.hid (own_ext o6_xi.out hb)
    have o7_ga := Lib.hid (own_ext o6_ga.out hb)
    have o7_gk := Lib.hid (own_ext o6_gk.out hb)
    have o7_gi := Lib.hid (own_ext o6_gi.out hb)
    clear q6_0 q6_1 q6_2 q6_3 q6_4 q6_5 q6_6 q6_7 q6_8 q6_9 q6_10 q6_11 q6_12 q6_13 q6_14 q6_15 q6_16 q6_17 q6_18 q6_19 q6_20 q6_21 q6_22 q6_23 q6_24 q6_25 q6_26 q6_27 q6_28 q6_29
    clear hb
    go_wp2_with fail
    refine (markMind_any u lo Axa n cxa Axk k cxk Axi m cxi be gu _ _ _ _ _ _ _ hn hk hm o7_xa.out o7_xk.out o7_xi.out Hhne_x.out).mono ?_
    rintro e w10 ⟨rfl, w8, w9, hg1, hg2, hg3, hk1, hi2, hoa, hok, hoi⟩
    have hg := hg1
    have s8 : w7.heap.size ≤ w8.heap.size := (by have := hg.size; (try simp at this); omega)
    have z8_0 : w.heap.size < w8.heap.size := (by omega)
    have z8_1 : w.heap.size + 1 < w8.heap.size := (by omega)
    have z8_2 : g2 < w8.heap.size := (by omega)
    have z8_3 : w3.heap.size < w8.heap.size := (by omega)
    have z8_4 : g5 < w8.heap.size := (by omega)
    have q8_0 : w8.cell? ⟨w.heap.size, 0, none⟩ = some (.int .i64 u) := cell_far_grown hg (own_far_lt (b := w.heap.size) oc_xa.out (by omega)) q7_0
    have q8_1 : w8.cell? ⟨w.heap.size, 1, none⟩ = some (.int .i64 lo) := cell_far_grown hg (own_far_lt (b := w.heap.size) oc_xa.out (by omega)) q7_1
    have q8_2 : w8.cell? ⟨w.heap.size, 2, none⟩ = some (.slice A n c) := cell_far_grown hg (own_far_lt (b := w.heap.size) oc_xa.out (by omega)) q7_2
    have q8_3 : w8.cell? ⟨w.heap.size, 3, none⟩ = some (.slice K k kc) := cell_far_grown hg (own_far_lt (b := w.heap.size) oc_xa.out (by omega)) q7_3
    have q8_4 : w8.cell? ⟨w.heap.size, 4, none⟩ = some (.slice I m ic) := cell_far_grown hg (own_far_lt (b := w.heap.size) oc_xa.out (by omega)) q7_4
    have q8_5 : w8.cell? ⟨w.heap.size, 5, none⟩ = some (.int .i64 be) := cell_far_grown hg (own_far_lt (b := w.heap.size) oc_xa.out (by omega)) q7_5
    have q8_6 : w8.cell? ⟨w.heap.size, 6, none⟩ = some (.int .i64 gu) := cell_far_grown hg (own_far_lt (b := w.heap.size) oc_xa.out (by omega)) q7_6
    have q8_7 : w8.cell? ⟨w.heap.size + 1, 0, none⟩ = some (.int .i64 kd) := cell_far_grown hg (own_far_lt (b := w.heap.size + 1) oc_xa.out (by omega)) q7_7
    have q8_8 : w8.cell? ⟨w.heap.size + 1, 1, none⟩ = some (.int .i64 v) := cell_far_grown hg (own_far_lt (b := w.heap.size + 1) oc_xa.out (by omega)) q7_8
    have q8_9 : w8.cell? ⟨g2, 0, none⟩ = some (.int .i64 U) := cell_far_grown hg (own_far_lt (b := g2) oc_xa.out (by omega)) q7_9
    have q8_10 : w8.cell? ⟨g2, 1, none⟩ = some (.int .i64 LO) := cell_far_grown hg (own_far_lt (b := g2) oc_xa.out (by omega)) q7_10
    have q8_11 : w8.cell? ⟨g2, 2, none⟩ = some (.slice Awa N cwa) := cell_far_grown hg (own_far_lt (b := g2) oc_xa.out (by omega)) q7_11
    have q8_12 : w8.cell? ⟨g2, 3, none⟩ = some (.slice Awk NK cwk) := cell_far_grown hg (own_far_lt (b := g2) oc_xa.out (by omega)) q7_12
    have q8_13 : w8.cell? ⟨g2, 4, none⟩ = some (.slice Awi NI cwi) := cell_far_grown hg (own_far_lt (b := g2) oc_xa.out (by omega)) q7_13
    have q8_14 : w8.cell? ⟨g2, 5, none⟩ = some (.int .i64 BE) := cell_far_grown hg (own_far_lt (b := g2) oc_xa.out (by omega)) q7_14
    have q8_15 : w8.cell? ⟨g2, 6, none⟩ = some (.int .i64 GU) := cell_far_grown hg (own_far_lt (b := g2) oc_xa.out (by omega)) q7_15
    have q8_16 : w8.cell? ⟨w3.heap.size, 0, none⟩ = some (.int .i64 u) := cell_far_grown hg (own_far_ge (b := w3.heap.size) oc_xa.out (by omega)) q7_16
    have q8_17 : w8.cell? ⟨w3.heap.size, 1, none⟩ = some (.int .i64 lo) := cell_far_grown hg (own_far_ge (b := w3.heap.size) oc_xa.out (by omega)) q7_17
    have q8_18 : w8.cell? ⟨w3.heap.size, 2, none⟩ = some (.slice Axa n cxa) := cell_far_grown hg (own_far_ge (b := w3.heap.size) oc_xa.out (by omega)) q7_18
    have q8_19 : w8.cell? ⟨w3.heap.size, 3, none⟩ = some (.slice Axk k cxk) := cell_far_grown hg (own_far_ge (b := w3.heap.size) oc_xa.out (by omega)) q7_19
    have q8_20 : w8.cell? ⟨w3.heap.size, 4, none⟩ = some (.slice Axi m cxi) := cell_far_grown hg (own_far_ge (b := w3.heap.size) oc_xa.out (by omega)) q7_20
    have q8_21 : w8.cell? ⟨w3.heap.size, 5, none⟩ = some (.int .i64 be) := cell_far_grown hg (own_far_ge (b := w3.heap.size) oc_xa.out (by omega)) q7_21
    have q8_22 : w8.cell? ⟨w3.heap.size, 6, none⟩ = some (.int .i64 gu) := cell_far_grown hg (own_far_ge (b := w3.heap.size) oc_xa.out (by omega)) q7_22
    have q8_23 : w8.cell? ⟨g5, 0, none⟩ = some (.int .i64 U) := cell_far_grown hg (own_far_ge (b := g5) oc_xa.out (by omega)) q7_23
    have q8_24 : w8.cell? ⟨g5, 1, none⟩ = some (.int .i64 LO) := cell_far_grown hg (own_far_ge (b := g5) oc_xa.out (by omega)) q7_24
    have q8_25 : w8.cell? ⟨g5, 2, none⟩ = some (.slice Aga N cga) := cell_far_grown hg (own_far_ge (b := g5) oc_xa.out (by omega)) q7_25
    have q8_26 : w8.cell? ⟨g5, 3, none⟩ = some (.slice Agk NK cgk) := cell_far_grown hg (own_far_ge (b := g5) oc_xa.out (by omega)) q7_26
    have q8_27 : w8.cell? ⟨g5, 4, none⟩ = some (.slice Agi NI cgi) := cell_far_grown hg (own_far_ge (b := g5) oc_xa.out (by omega)) q7_27
    have q8_28 : w8.cell? ⟨g5, 5, none⟩ = some (.int .i64 BE) := cell_far_grown hg (own_far_ge (b := g5) oc_xa.out (by omega)) q7_28
    have q8_29 : w8.cell? ⟨g5, 6, none⟩ = some (.int .i64 GU) := cell_far_grown hg (own_far_ge (b := g5) oc_xa.out (by omega)) q7_29
    have b8 := Lib.hid (below_grown' o7_xa.out (by omega) b7.out hg)
    have t8 : w.heap.size ≤ w8.heap.size := b8.out.size
    have o8_wa := Lib.hid (o7_wa.out.kept hg (own_ne' oc_wa.out oc_xa.out (by omega)))
    have o8_wk := Lib.hid (o7_wk.out.kept hg (own_ne' oc_wk.out oc_xa.out (by omega)))
    have o8_wi := Lib.hid (o7_wi.out.kept hg (own_ne' oc_wi.out oc_xa.out (by omega)))
    have o8_ga := Lib.hid (o7_ga.out.kept hg (own_ne oc_xa.out oc_ga.out (by omega)))
    have o8_gk := Lib.hid (o7_gk.out.kept hg (own_ne oc_xa.out oc_gk.out (by omega)))
    have o8_gi := Lib.hid (o7_gi.out.kept hg (own_ne oc_xa.out oc_gi.out (by omega)))
    clear q7_0 q7_1 q7_2 q7_3 q7_4 q7_5 q7_6 q7_7 q7_8 q7_9 q7_10 q7_11 q7_12 q7_13 q7_14 q7_15 q7_16 q7_17 q7_18 q7_19 q7_20 q7_21 q7_22 q7_23 q7_24 q7_25 q7_26 q7_27 q7_28 q7_29
    clear hg
    have o8_xk := Lib.hid hk1
    have hg := hg2
    have s9 : w8.heap.size ≤ w9.heap.size := (by have := hg.size; (try simp at this); omega)
    have z9_0 : w.heap.size < w9.heap.size := (by omega)
    have z9_1 : w.heap.size + 1 < w9.heap.size := (by omega)
    have z9_2 : g2 < w9.heap.size := (by omega)
    have z9_3 : w3.heap.size < w9.heap.size := (by omega)
    have z9_4 : g5 < w9.heap.size := (by omega)
    have q9_0 : w9.cell? ⟨w.heap.size, 0, none⟩ = some (.int .i64 u) := cell_far_grown hg (own_far_lt (b := w.heap.size) oc_xk.out (by omega)) q8_0
    have q9_1 : w9.cell? ⟨w.heap.size, 1, none⟩ = some (.int .i64 lo) := cell_far_grown hg (own_far_lt (b := w.heap.size) oc_xk.out (by omega)) q8_1
    have q9_2 : w9.cell? ⟨w.heap.size, 2, none⟩ = some (.slice A n c) := cell_far_grown hg (own_far_lt (b := w.heap.size) oc_xk.out (by omega)) q8_2
    have q9_3 : w9.cell? ⟨w.heap.size, 3, none⟩ = some (.slice K k kc) := cell_far_grown hg (own_far_lt (b := w.heap.size) oc_xk.out (by omega)) q8_3
    have q9_4 : w9.cell? ⟨w.heap.size, 4, none⟩ = some (.slice I m ic) := cell_far_grown hg (own_far_lt (b := w.heap.size) oc_xk.out (by omega)) q8_4
    have q9_5 : w9.cell? ⟨w.heap.size, 5, none⟩ = some (.int .i64 be) := cell_far_grown hg (own_far_lt (b := w.heap.size) oc_xk.out (by omega)) q8_5
    have q9_6 : w9.cell? ⟨w.heap.size, 6, none⟩ = some (.int .i64 gu) := cell_far_grown hg (own_far_lt (b := w.heap.size) oc_xk.out (by omega)) q8_6
    have q9_7 : w9.cell? ⟨w.heap.size + 1, 0, none⟩ = some (.int .i64 kd) := cell_far_grown hg (own_far_lt (b := w.heap.size + 1) oc_xk.out (by omega)) q8_7
    have q9_8 : w9.cell? ⟨w.heap.size + 1, 1, none⟩ = some (.int .i64 v) := cell_far_grown hg (own_far_lt (b := w.heap.size + 1) oc_xk.out (by omega)) q8_8
    have q9_9 : w9.cell? ⟨g2, 0, none⟩ = some (.int .i64 U) := cell_far_grown hg (own_far_lt (b := g2) oc_xk.out (by omega)) q8_9
    have q9_10 : w9.cell? ⟨g2, 1, none⟩ = some (.int .i64 LO) := cell_far_grown hg (own_far_lt (b := g2) oc_xk.out (by omega)) q8_10
    have q9_11 : w9.cell? ⟨g2, 2, none⟩ = some (.slice Awa N cwa) := cell_far_grown hg (own_far_lt (b := g2) oc_xk.out (by omega)) q8_11
    have q9_12 : w9.cell? ⟨g2, 3, none⟩ = some (.slice Awk NK cwk) := cell_far_grown hg (own_far_lt (b := g2) oc_xk.out (by omega)) q8_12
    have q9_13 : w9.cell? ⟨g2, 4, none⟩ = some (.slice Awi NI cwi) := cell_far_grown hg (own_far_lt (b := g2) oc_xk.out (by omega)) q8_13
    have q9_14 : w9.cell? ⟨g2, 5, none⟩ = some (.int .i64 BE) := cell_far_grown hg (own_far_lt (b := g2) oc_xk.out (by omega)) q8_14
    have q9_15 : w9.cell? ⟨g2, 6, none⟩ = some (.int .i64 GU) := cell_far_grown hg (own_far_lt (b := g2) oc_xk.out (by omega)) q8_15
    have q9_16 : w9.cell? ⟨w3.heap.size, 0, none⟩ = some (.int .i64 u) := cell_far_grown hg (own_far_ge (b := w3.heap.size) oc_xk.out (by omega)) q8_16
    have q9_17 : w9.cell? ⟨w3.heap.size, 1, none⟩ = some (.int .i64 lo) := cell_far_grown hg (own_far_ge (b := w3.heap.size) oc_xk.out (by omega)) q8_17
    have q9_18 : w9.cell? ⟨w3.heap.size, 2, none⟩ = some (.slice Axa n cxa) := cell_far_grown hg (own_far_ge (b := w3.heap.size) oc_xk.out (by omega)) q8_18
    have q9_19 : w9.cell? ⟨w3.heap.size, 3, none⟩ = some (.slice Axk k cxk) := cell_far_grown hg (own_far_ge (b := w3.heap.size) oc_xk.out (by omega)) q8_19
    have q9_20 : w9.cell? ⟨w3.heap.size, 4, none⟩ = some (.slice Axi m cxi) := cell_far_grown hg (own_far_ge (b := w3.heap.size) oc_xk.out (by omega)) q8_20
    have q9_21 : w9.cell? ⟨w3.heap.size, 5, none⟩ = some (.int .i64 be) := cell_far_grown hg (own_far_ge (b := w3.heap.size) oc_xk.out (by omega)) q8_21
    have q9_22 : w9.cell? ⟨w3.heap.size, 6, none⟩ = some (.int .i64 gu) := cell_far_grown hg (own_far_ge (b := w3.heap.size) oc_xk.out (by omega)) q8_22
    have q9_23 : w9.cell? ⟨g5, 0, none⟩ = some (.int .i64 U) := cell_far_grown hg (own_far_ge (b := g5) oc_xk.out (by omega)) q8_23
    have q9_24 : w9.cell? ⟨g5, 1, none⟩ = some (.int .i64 LO) := cell_far_grown hg (own_far_ge (b := g5) oc_xk.out (by omega)) q8_24
    have q9_25 : w9.cell? ⟨g5, 2, none⟩ = some (.slice Aga N cga) := cell_far_grown hg (own_far_ge (b := g5) oc_xk.out (by omega)) q8_25
    have q9_26 : w9.cell? ⟨g5, 3, none⟩ = some (.slice Agk NK cgk) := cell_far_grown hg (own_far_ge (b := g5) oc_xk.out (by omega)) q8_26
    have q9_27 : w9.cell? ⟨g5, 4, none⟩ = some (.slice Agi NI cgi) := cell_far_grown hg (own_far_ge (b := g5) oc_xk.out (by omega)) q8_27
    have q9_28 : w9.cell? ⟨g5, 5, none⟩ = some (.int .i64 BE) := cell_far_grown hg (own_far_ge (b := g5) oc_xk.out (by omega)) q8_28
    have q9_29 : w9.cell? ⟨g5, 6, none⟩ = some (.int .i64 GU) := cell_far_grown hg (own_far_ge (b := g5) oc_xk.out (by omega)) q8_29
    have b9 := Lib.hid (below_grown' o8_xk.out (by omega) b8.out hg)
    have t9 : w.heap.size ≤ w9.heap.size := b9.out.size
    have o9_wa := Lib.hid (o8_wa.out.kept hg (own_ne' oc_wa.out oc_xk.out (by omega)))
    have o9_wk := Lib.hid (o8_wk.out.kept hg (own_ne' oc_wk.out oc_xk.out (by omega)))
    have o9_wi := Lib.hid (o8_wi.out.kept hg (own_ne' oc_wi.out oc_xk.out (by omega)))
    have o9_ga := Lib.hid (o8_ga.out.kept hg (own_ne oc_xk.out oc_ga.out (by omega)))
    have o9_gk := Lib.hid (o8_gk.out.kept hg (own_ne oc_xk.out oc_gk.out (by omega)))
    have o9_gi := Lib.hid (o8_gi.out.kept hg (own_ne oc_xk.out oc_gi.out (by omega)))
    clear q8_0 q8_1 q8_2 q8_3 q8_4 q8_5 q8_6 q8_7 q8_8 q8_9 q8_10 q8_11 q8_12 q8_13 q8_14 q8_15 q8_16 q8_17 q8_18 q8_19 q8_20 q8_21 q8_22 q8_23 q8_24 q8_25 q8_26 q8_27 q8_28 q8_29
    clear hg
    have o9_xi := Lib.hid hi2
    have hg := hg3
    have s10 : w9.heap.size ≤ w10.heap.size := (by have := hg.size; (try simp at this); omega)
    have z10_0 : w.heap.size < w10.heap.size := (by omega)
    have z10_1 : w.heap.size + 1 < w10.heap.size := (by omega)
    have z10_2 : g2 < w10.heap.size := (by omega)
    have z10_3 : w3.heap.size < w10.heap.size := (by omega)
    have z10_4 : g5 < w10.heap.size := (by omega)
    have q10_0 : w10.cell? ⟨w.heap.size, 0, none⟩ = some (.int .i64 u) := cell_far_grown hg (own_far_lt (b := w.heap.size) oc_xi.out (by omega)) q9_0
    have q10_1 : w10.cell? ⟨w.heap.size, 1, none⟩ = some (.int .i64 lo) := cell_far_grown hg (own_far_lt (b := w.heap.size) oc_xi.out (by omega)) q9_1
    have q10_2 : w10.cell? ⟨w.heap.size, 2, none⟩ = some (.slice A n c) := cell_far_grown hg (own_far_lt (b := w.heap.size) oc_xi.out (by omega)) q9_2
    have q10_3 : w10.cell? ⟨w.heap.size, 3, none⟩ = some (.slice K k kc) := cell_far_grown hg (own_far_lt (b := w.heap.size) oc_xi.out (by omega)) q9_3
    have q10_4 : w10.cell? ⟨w.heap.size, 4, none⟩ = some (.slice I m ic) := cell_far_grown hg (own_far_lt (b := w.heap.size) oc_xi.out (by omega)) q9_4
    have q10_5 : w10.cell? ⟨w.heap.size, 5, none⟩ = some (.int .i64 be) := cell_far_grown hg (own_far_lt (b := w.heap.size) oc_xi.out (by omega)) q9_5
    have q10_6 : w10.cell? ⟨w.heap.size, 6, none⟩ = some (.int .i64 gu) := cell_far_grown hg (own_far_lt (b := w.heap.size) oc_xi.out (by omega)) q9_6
    have q10_7 : w10.cell? ⟨w.heap.size + 1, 0, none⟩ = some (.int .i64 kd) := cell_far_grown hg (own_far_lt (b := w.heap.size + 1) oc_xi.out (by omega)) q9_7
    have q10_8 : w10.cell? ⟨w.heap.size + 1, 1, none⟩ = some (.int .i64 v) := cell_far_grown hg (own_far_lt (b := w.heap.size + 1) oc_xi.out (by omega)) q9_8
    have q10_9 : w10.cell? ⟨g2, 0, none⟩ = some (.int .i64 U) := cell_far_grown hg (own_far_lt (b := g2) oc_xi.out (by omega)) q9_9
    have q10_10 : w10.cell? ⟨g2, 1, none⟩ = some (.int .i64 LO) := cell_far_grown hg (own_far_lt (b := g2) oc_xi.out (by omega)) q9_10
    have q10_11 : w10.cell? ⟨g2, 2, none⟩ = some (.slice Awa N cwa) := cell_far_grown hg (own_far_lt (b := g2) oc_xi.out (by omega)) q9_11
    have q10_12 : w10.cell? ⟨g2, 3, none⟩ = some (.slice Awk NK cwk) := cell_far_grown hg (own_far_lt (b := g2) oc_xi.out (by omega)) q9_12
    have q10_13 : w10.cell? ⟨g2, 4, none⟩ = some (.slice Awi NI cwi) := cell_far_grown hg (own_far_lt (b := g2) oc_xi.out (by omega)) q9_13
    have q10_14 : w10.cell? ⟨g2, 5, none⟩ = some (.int .i64 BE) := cell_far_grown hg (own_far_lt (b := g2) oc_xi.out (by omega)) q9_14
    have q10_15 : w10.cell? ⟨g2, 6, none⟩ = some (.int .i64 GU) := cell_far_grown hg (own_far_lt (b := g2) oc_xi.out (by omega)) q9_15
    have q10_16 : w10.cell? ⟨w3.heap.size, 0, none⟩ = some (.int .i64 u) := cell_far_grown hg (own_far_ge (b := w3.heap.size) oc_xi.out (by omega)) q9_16
    have q10_17 : w10.cell? ⟨w3.heap.size, 1, none⟩ = some (.int .i64 lo) := cell_far_grown hg (own_far_ge (b := w3.heap.size) oc_xi.out (by omega)) q9_17
    have q10_18 : w10.cell? ⟨w3.heap.size, 2, none⟩ = some (.slice Axa n cxa) := cell_far_grown hg (own_far_ge (b := w3.heap.size) oc_xi.out (by omega)) q9_18
    have q10_19 : w10.cell? ⟨w3.heap.size, 3, none⟩ = some (.slice Axk k cxk) := cell_far_grown hg (own_far_ge (b := w3.heap.size) oc_xi.out (by omega)) q9_19
    have q10_20 : w10.cell? ⟨w3.heap.size, 4, none⟩ = some (.slice Axi m cxi) := cell_far_grown hg (own_far_ge (b := w3.heap.size) oc_xi.out (by omega)) q9_20
    have q10_21 : w10.cell? ⟨w3.heap.size, 5, none⟩ = some (.int .i64 be) := cell_far_grown hg (own_far_ge (b := w3.heap.size) oc_xi.out (by omega)) q9_21
    have q10_22 : w10.cell? ⟨w3.heap.size, 6, none⟩ = some (.int .i64 gu) := cell_far_grown hg (own_far_ge (b := w3.heap.size) oc_xi.out (by omega)) q9_22
    have q10_23 : w10.cell? ⟨g5, 0, none⟩ = some (.int .i64 U) := cell_far_grown hg (own_far_ge (b := g5) oc_xi.out (by omega)) q9_23
    have q10_24 : w10.cell? ⟨g5, 1, none⟩ = some (.int .i64 LO) := cell_far_grown hg (own_far_ge (b := g5) oc_xi.out (by omega)) q9_24
    have q10_25 : w10.cell? ⟨g5, 2, none⟩ = some (.slice Aga N cga) := cell_far_grown hg (own_far_ge (b := g5) oc_xi.out (by omega)) q9_25
    have q10_26 : w10.cell? ⟨g5, 3, none⟩ = some (.slice Agk NK cgk) := cell_far_grown hg (own_far_ge (b := g5) oc_xi.out (by omega)) q9_26
    have q10_27 : w10.cell? ⟨g5, 4, none⟩ = some (.slice Agi NI cgi) := cell_far_grown hg (own_far_ge (b := g5) oc_xi.out (by omega)) q9_27
    have q10_28 : w10.cell? ⟨g5, 5, none⟩ = some (.int .i64 BE) := cell_far_grown hg (own_far_ge (b := g5) oc_xi.out (by omega)) q9_28
    have q10_29 : w10.cell? ⟨g5, 6, none⟩ = some (.int .i64 GU) := cell_far_grown hg (own_far_ge (b := g5) oc_xi.out (by omega)) q9_29
    have b10 := Lib.hid (below_grown' o9_xi.out (by omega) b9.out hg)
    have t10 : w.heap.size ≤ w10.heap.size := b10.out.size
    have o10_wa := Lib.hid (o9_wa.out.kept hg (own_ne' oc_wa.out oc_xi.out (by omega)))
    have o10_wk := Lib.hid (o9_wk.out.kept hg (own_ne' oc_wk.out oc_xi.out (by omega)))
    have o10_wi := Lib.hid (o9_wi.out.kept hg (own_ne' oc_wi.out oc_xi.out (by omega)))
    have o10_ga := Lib.hid (o9_ga.out.kept hg (own_ne oc_xi.out oc_ga.out (by omega)))
    have o10_gk := Lib.hid (o9_gk.out.kept hg (own_ne oc_xi.out oc_gk.out (by omega)))
    have o10_gi := Lib.hid (o9_gi.out.kept hg (own_ne oc_xi.out oc_gi.out (by omega)))
    clear q9_0 q9_1 q9_2 q9_3 q9_4 q9_5 q9_6 q9_7 q9_8 q9_9 q9_10 q9_11 q9_12 q9_13 q9_14 q9_15 q9_16 q9_17 q9_18 q9_19 q9_20 q9_21 q9_22 q9_23 q9_24 q9_25 q9_26 q9_27 q9_28 q9_29
    clear hg
    have o10_xa := Lib.hid hoa
    have o10_xk := Lib.hid hok
    have o10_xi := Lib.hid hoi
    clear hg1 hg2 hg3 hk1 hi2 hoa hok hoi
    go_wp2_with fail
    refine (eqMind_same U LO Aga Awa N cga cwa L Agk Awk NK cgk cwk CL Agi Awi NI cgi cwi IM BE GU _ hN hNK hNI (Reads.of_own o10_ga.out) (Reads.of_own o10_wa.out) (Reads.of_own o10_gk.out) (Reads.of_own o10_wk.out) (Reads.of_own o10_gi.out) (Reads.of_own o10_wi.out)).mono ?_
    rintro e w11 ⟨rfl, hb⟩
    have s11 : w10.heap.size ≤ w11.heap.size := (by have := hb.size; (try simp at this); omega)
    have z11_0 : w.heap.size < w11.heap.size := (by omega)
    have z11_1 : w.heap.size + 1 < w11.heap.size := (by omega)
    have z11_2 : g2 < w11.heap.size := (by omega)
    have z11_3 : w3.heap.size < w11.heap.size := (by omega)
    have z11_4 : g5 < w11.heap.size := (by omega)
    have q11_0 : w11.cell? ⟨w.heap.size, 0, none⟩ = some (.int .i64 u) := ext_cell hb q10_0
    have q11_1 : w11.cell? ⟨w.heap.size, 1, none⟩ = some (.int .i64 lo) := ext_cell hb q10_1
    have q11_2 : w11.cell? ⟨w.heap.size, 2, none⟩ = some (.slice A n c) := ext_cell hb q10_2
    have q11_3 : w11.cell? ⟨w.heap.size, 3, none⟩ = some (.slice K k kc) := ext_cell hb q10_3
    have q11_4 : w11.cell? ⟨w.heap.size, 4, none⟩ = some (.slice I m ic) := ext_cell hb q10_4
    have q11_5 : w11.cell? ⟨w.heap.size, 5, none⟩ = some (.int .i64 be) := ext_cell hb q10_5
    have q11_6 : w11.cell? ⟨w.heap.size, 6, none⟩ = some (.int .i64 gu) := ext_cell hb q10_6
    have q11_7 : w11.cell? ⟨w.heap.size + 1, 0, none⟩ = some (.int .i64 kd) := ext_cell hb q10_7
    have q11_8 : w11.cell? ⟨w.heap.size + 1, 1, none⟩ = some (.int .i64 v) := ext_cell hb q10_8
    have q11_9 : w11.cell? ⟨g2, 0, none⟩ = some (.int .i64 U) := ext_cell hb q10_9
    have q11_10 : w11.cell? ⟨g2, 1, none⟩ = some (.int .i64 LO) := ext_cell hb q10_10
    have q11_11 : w11.cell? ⟨g2, 2, none⟩ = some (.slice Awa N cwa) := ext_cell hb q10_11
    have q11_12 : w11.cell? ⟨g2, 3, none⟩ = some (.slice Awk NK cwk) := ext_cell hb q10_12
    have q11_13 : w11.cell? ⟨g2, 4, none⟩ = some (.slice Awi NI cwi) := ext_cell hb q10_13
    have q11_14 : w11.cell? ⟨g2, 5, none⟩ = some (.int .i64 BE) := ext_cell hb q10_14
    have q11_15 : w11.cell? ⟨g2, 6, none⟩ = some (.int .i64 GU) := ext_cell hb q10_15
    have q11_16 : w11.cell? ⟨w3.heap.size, 0, none⟩ = some (.int .i64 u) := ext_cell hb q10_16
    have q11_17 : w11.cell? ⟨w3.heap.size, 1, none⟩ = some (.int .i64 lo) := ext_cell hb q10_17
    have q11_18 : w11.cell? ⟨w3.heap.size, 2, none⟩ = some (.slice Axa n cxa) := ext_cell hb q10_18
    have q11_19 : w11.cell? ⟨w3.heap.size, 3, none⟩ = some (.slice Axk k cxk) := ext_cell hb q10_19
    have q11_20 : w11.cell? ⟨w3.heap.size, 4, none⟩ = some (.slice Axi m cxi) := ext_cell hb q10_20
    have q11_21 : w11.cell? ⟨w3.heap.size, 5, none⟩ = some (.int .i64 be) := ext_cell hb q10_21
    have q11_22 : w11.cell? ⟨w3.heap.size, 6, none⟩ = some (.int .i64 gu) := ext_cell hb q10_22
    have q11_23 : w11.cell? ⟨g5, 0, none⟩ = some (.int .i64 U) := ext_cell hb q10_23
    have q11_24 : w11.cell? ⟨g5, 1, none⟩ = some (.int .i64 LO) := ext_cell hb q10_24
    have q11_25 : w11.cell? ⟨g5, 2, none⟩ = some (.slice Aga N cga) := ext_cell hb q10_25
    have q11_26 : w11.cell? ⟨g5, 3, none⟩ = some (.slice Agk NK cgk) := ext_cell hb q10_26
    have q11_27 : w11.cell? ⟨g5, 4, none⟩ = some (.slice Agi NI cgi) := ext_cell hb q10_27
    have q11_28 : w11.cell? ⟨g5, 5, none⟩ = some (.int .i64 BE) := ext_cell hb q10_28
    have q11_29 : w11.cell? ⟨g5, 6, none⟩ = some (.int .i64 GU) := ext_cell hb q10_29
    have b11 := Lib.hid (ext_trans b10.out hb)
    have t11 : w.heap.size ≤ w11.heap.size := b11.out.size
    have o11_wa := Lib.hid (own_ext o10_wa.out hb)
    have o11_wk := Lib.hid (own_ext o10_wk.out hb)
    have o11_wi := Lib.hid (own_ext o10_wi.out hb)
    have o11_ga := Lib.hid (own_ext o10_ga.out hb)
    have o11_gk := Lib.hid (own_ext o10_gk.out hb)
    have o11_gi := Lib.hid (own_ext o10_gi.out hb)
    have o11_xi := Lib.hid (own_ext o10_xi.out hb)
    have o11_xa := Lib.hid (own_ext o10_xa.out hb)
    have o11_xk := Lib.hid (own_ext o10_xk.out hb)
    clear q10_0 q10_1 q10_2 q10_3 q10_4 q10_5 q10_6 q10_7 q10_8 q10_9 q10_10 q10_11 q10_12 q10_13 q10_14 q10_15 q10_16 q10_17 q10_18 q10_19 q10_20 q10_21 q10_22 q10_23 q10_24 q10_25 q10_26 q10_27 q10_28 q10_29
    clear hb
    go_wp2_with fail
    refine (markMind_any U LO Aga N cga Agk NK cgk Agi NI cgi BE GU _ _ _ _ _ _ _ hN hNK hNI o11_ga.out o11_gk.out o11_gi.out Hhne_g.out).mono ?_
    rintro e w14 ⟨rfl, w12, w13, hg1, hg2, hg3, hk1, hi2, hoa, hok, hoi⟩
    have hg := hg1
    have s12 : w11.heap.size ≤ w12.heap.size := (by have := hg.size; (try simp at this); omega)
    have z12_0 : w.heap.size < w12.heap.size := (by omega)
    have z12_1 : w.heap.size + 1 < w12.heap.size := (by omega)
    have z12_2 : g2 < w12.heap.size := (by omega)
    have z12_3 : w3.heap.size < w12.heap.size := (by omega)
    have z12_4 : g5 < w12.heap.size := (by omega)
    have q12_0 : w12.cell? ⟨w.heap.size, 0, none⟩ = some (.int .i64 u) := cell_far_grown hg (own_far_lt (b := w.heap.size) oc_ga.out (by omega)) q11_0
    have q12_1 : w12.cell? ⟨w.heap.size, 1, none⟩ = some (.int .i64 lo) := cell_far_grown hg (own_far_lt (b := w.heap.size) oc_ga.out (by omega)) q11_1
    have q12_2 : w12.cell? ⟨w.heap.size, 2, none⟩ = some (.slice A n c) := cell_far_grown hg (own_far_lt (b := w.heap.size) oc_ga.out (by omega)) q11_2
    have q12_3 : w12.cell? ⟨w.heap.size, 3, none⟩ = some (.slice K k kc) := cell_far_grown hg (own_far_lt (b := w.heap.size) oc_ga.out (by omega)) q11_3
    have q12_4 : w12.cell? ⟨w.heap.size, 4, none⟩ = some (.slice I m ic) := cell_far_grown hg (own_far_lt (b := w.heap.size) oc_ga.out (by omega)) q11_4
    have q12_5 : w12.cell? ⟨w.heap.size, 5, none⟩ = some (.int .i64 be) := cell_far_grown hg (own_far_lt (b := w.heap.size) oc_ga.out (by omega)) q11_5
    have q12_6 : w12.cell? ⟨w.heap.size, 6, none⟩ = some (.int .i64 gu) := cell_far_grown hg (own_far_lt (b := w.heap.size) oc_ga.out (by omega)) q11_6
    have q12_7 : w12.cell? ⟨w.heap.size + 1, 0, none⟩ = some (.int .i64 kd) := cell_far_grown hg (own_far_lt (b := w.heap.size + 1) oc_ga.out (by omega)) q11_7
    have q12_8 : w12.cell? ⟨w.heap.size + 1, 1, none⟩ = some (.int .i64 v) := cell_far_grown hg (own_far_lt (b := w.heap.size + 1) oc_ga.out (by omega)) q11_8
    have q12_9 : w12.cell? ⟨g2, 0, none⟩ = some (.int .i64 U) := cell_far_grown hg (own_far_lt (b := g2) oc_ga.out (by omega)) q11_9
    have q12_10 : w12.cell? ⟨g2, 1, none⟩ = some (.int .i64 LO) := cell_far_grown hg (own_far_lt (b := g2) oc_ga.out (by omega)) q11_10
    have q12_11 : w12.cell? ⟨g2, 2, none⟩ = some (.slice Awa N cwa) := cell_far_grown hg (own_far_lt (b := g2) oc_ga.out (by omega)) q11_11
    have q12_12 : w12.cell? ⟨g2, 3, none⟩ = some (.slice Awk NK cwk) := cell_far_grown hg (own_far_lt (b := g2) oc_ga.out (by omega)) q11_12
    have q12_13 : w12.cell? ⟨g2, 4, none⟩ = some (.slice Awi NI cwi) := cell_far_grown hg (own_far_lt (b := g2) oc_ga.out (by omega)) q11_13
    have q12_14 : w12.cell? ⟨g2, 5, none⟩ = some (.int .i64 BE) := cell_far_grown hg (own_far_lt (b := g2) oc_ga.out (by omega)) q11_14
    have q12_15 : w12.cell? ⟨g2, 6, none⟩ = some (.int .i64 GU) := cell_far_grown hg (own_far_lt (b := g2) oc_ga.out (by omega)) q11_15
    have q12_16 : w12.cell? ⟨w3.heap.size, 0, none⟩ = some (.int .i64 u) := cell_far_grown hg (own_far_lt (b := w3.heap.size) oc_ga.out (by omega)) q11_16
    have q12_17 : w12.cell? ⟨w3.heap.size, 1, none⟩ = some (.int .i64 lo) := cell_far_grown hg (own_far_lt (b := w3.heap.size) oc_ga.out (by omega)) q11_17
    have q12_18 : w12.cell? ⟨w3.heap.size, 2, none⟩ = some (.slice Axa n cxa) := cell_far_grown hg (own_far_lt (b := w3.heap.size) oc_ga.out (by omega)) q11_18
    have q12_19 : w12.cell? ⟨w3.heap.size, 3, none⟩ = some (.slice Axk k cxk) := cell_far_grown hg (own_far_lt (b := w3.heap.size) oc_ga.out (by omega)) q11_19
    have q12_20 : w12.cell? ⟨w3.heap.size, 4, none⟩ = some (.slice Axi m cxi) := cell_far_grown hg (own_far_lt (b := w3.heap.size) oc_ga.out (by omega)) q11_20
    have q12_21 : w12.cell? ⟨w3.heap.size, 5, none⟩ = some (.int .i64 be) := cell_far_grown hg (own_far_lt (b := w3.heap.size) oc_ga.out (by omega)) q11_21
    have q12_22 : w12.cell? ⟨w3.heap.size, 6, none⟩ = some (.int .i64 gu) := cell_far_grown hg (own_far_lt (b := w3.heap.size) oc_ga.out (by omega)) q11_22
    have q12_23 : w12.cell? ⟨g5, 0, none⟩ = some (.int .i64 U) := cell_far_grown hg hn_ga.out q11_23
    have q12_24 : w12.cell? ⟨g5, 1, none⟩ = some (.int .i64 LO) := cell_far_grown hg hn_ga.out q11_24
    have q12_25 : w12.cell? ⟨g5, 2, none⟩ = some (.slice Aga N cga) := cell_far_grown hg hn_ga.out q11_25
    have q12_26 : w12.cell? ⟨g5, 3, none⟩ = some (.slice Agk NK cgk) := cell_far_grown hg hn_ga.out q11_26
    have q12_27 : w12.cell? ⟨g5, 4, none⟩ = some (.slice Agi NI cgi) := cell_far_grown hg hn_ga.out q11_27
    have q12_28 : w12.cell? ⟨g5, 5, none⟩ = some (.int .i64 BE) := cell_far_grown hg hn_ga.out q11_28
    have q12_29 : w12.cell? ⟨g5, 6, none⟩ = some (.int .i64 GU) := cell_far_grown hg hn_ga.out q11_29
    have b12 := Lib.hid (below_grown' o11_ga.out (by omega) b11.out hg)
    have t12 : w.heap.size ≤ w12.heap.size := b12.out.size
    have o12_wa := Lib.hid (o11_wa.out.kept hg (own_ne' oc_wa.out oc_ga.out (by omega)))
    have o12_wk := Lib.hid (o11_wk.out.kept hg (own_ne' oc_wk.out oc_ga.out (by omega)))
    have o12_wi := Lib.hid (o11_wi.out.kept hg (own_ne' oc_wi.out oc_ga.out (by omega)))
    have o12_xi := Lib.hid (o11_xi.out.kept hg (own_ne' oc_xi.out oc_ga.out (by omega)))
    have o12_xa := Lib.hid (o11_xa.out.kept hg (own_ne' oc_xa.out oc_ga.out (by omega)))
    have o12_xk := Lib.hid (o11_xk.out.kept hg (own_ne' oc_xk.out oc_ga.out (by omega)))
    clear q11_0 q11_1 q11_2 q11_3 q11_4 q11_5 q11_6 q11_7 q11_8 q11_9 q11_10 q11_11 q11_12 q11_13 q11_14 q11_15 q11_16 q11_17 q11_18 q11_19 q11_20 q11_21 q11_22 q11_23 q11_24 q11_25 q11_26 q11_27 q11_28 q11_29
    clear hg
    have o12_gk := Lib.hid hk1
    have hg := hg2
    have s13 : w12.heap.size ≤ w13.heap.size := (by have := hg.size; (try simp at this); omega)
    have z13_0 : w.heap.size < w13.heap.size := (by omega)
    have z13_1 : w.heap.size + 1 < w13.heap.size := (by omega)
    have z13_2 : g2 < w13.heap.size := (by omega)
    have z13_3 : w3.heap.size < w13.heap.size := (by omega)
    have z13_4 : g5 < w13.heap.size := (by omega)
    have q13_0 : w13.cell? ⟨w.heap.size, 0, none⟩ = some (.int .i64 u) := cell_far_grown hg (own_far_lt (b := w.heap.size) oc_gk.out (by omega)) q12_0
    have q13_1 : w13.cell? ⟨w.heap.size, 1, none⟩ = some (.int .i64 lo) := cell_far_grown hg (own_far_lt (b := w.heap.size) oc_gk.out (by omega)) q12_1
    have q13_2 : w13.cell? ⟨w.heap.size, 2, none⟩ = some (.slice A n c) := cell_far_grown hg (own_far_lt (b := w.heap.size) oc_gk.out (by omega)) q12_2
    have q13_3 : w13.cell? ⟨w.heap.size, 3, none⟩ = some (.slice K k kc) := cell_far_grown hg (own_far_lt (b := w.heap.size) oc_gk.out (by omega)) q12_3
    have q13_4 : w13.cell? ⟨w.heap.size, 4, none⟩ = some (.slice I m ic) := cell_far_grown hg (own_far_lt (b := w.heap.size) oc_gk.out (by omega)) q12_4
    have q13_5 : w13.cell? ⟨w.heap.size, 5, none⟩ = some (.int .i64 be) := cell_far_grown hg (own_far_lt (b := w.heap.size) oc_gk.out (by omega)) q12_5
    have q13_6 : w13.cell? ⟨w.heap.size, 6, none⟩ = some (.int .i64 gu) := cell_far_grown hg (own_far_lt (b := w.heap.size) oc_gk.out (by omega)) q12_6
    have q13_7 : w13.cell? ⟨w.heap.size + 1, 0, none⟩ = some (.int .i64 kd) := cell_far_grown hg (own_far_lt (b := w.heap.size + 1) oc_gk.out (by omega)) q12_7
    have q13_8 : w13.cell? ⟨w.heap.size + 1, 1, none⟩ = some (.int .i64 v) := cell_far_grown hg (own_far_lt (b := w.heap.size + 1) oc_gk.out (by omega)) q12_8
    have q13_9 : w13.cell? ⟨g2, 0, none⟩ = some (.int .i64 U) := cell_far_grown hg (own_far_lt (b := g2) oc_gk.out (by omega)) q12_9
    have q13_10 : w13.cell? ⟨g2, 1, none⟩ = some (.int .i64 LO) := cell_far_grown hg (own_far_lt (b := g2) oc_gk.out (by omega)) q12_10
    have q13_11 : w13.cell? ⟨g2, 2, none⟩ = some (.slice Awa N cwa) := cell_far_grown hg (own_far_lt (b := g2) oc_gk.out (by omega)) q12_11
    have q13_12 : w13.cell? ⟨g2, 3, none⟩ = some (.slice Awk NK cwk) := cell_far_grown hg (own_far_lt (b := g2) oc_gk.out (by omega)) q12_12
    have q13_13 : w13.cell? ⟨g2, 4, none⟩ = some (.slice Awi NI cwi) := cell_far_grown hg (own_far_lt (b := g2) oc_gk.out (by omega)) q12_13
    have q13_14 : w13.cell? ⟨g2, 5, none⟩ = some (.int .i64 BE) := cell_far_grown hg (own_far_lt (b := g2) oc_gk.out (by omega)) q12_14
    have q13_15 : w13.cell? ⟨g2, 6, none⟩ = some (.int .i64 GU) := cell_far_grown hg (own_far_lt (b := g2) oc_gk.out (by omega)) q12_15
    have q13_16 : w13.cell? ⟨w3.heap.size, 0, none⟩ = some (.int .i64 u) := cell_far_grown hg (own_far_lt (b := w3.heap.size) oc_gk.out (by omega)) q12_16
    have q13_17 : w13.cell? ⟨w3.heap.size, 1, none⟩ = some (.int .i64 lo) := cell_far_grown hg (own_far_lt (b := w3.heap.size) oc_gk.out (by omega)) q12_17
    have q13_18 : w13.cell? ⟨w3.heap.size, 2, none⟩ = some (.slice Axa n cxa) := cell_far_grown hg (own_far_lt (b := w3.heap.size) oc_gk.out (by omega)) q12_18
    have q13_19 : w13.cell? ⟨w3.heap.size, 3, none⟩ = some (.slice Axk k cxk) := cell_far_grown hg (own_far_lt (b := w3.heap.size) oc_gk.out (by omega)) q12_19
    have q13_20 : w13.cell? ⟨w3.heap.size, 4, none⟩ = some (.slice Axi m cxi) := cell_far_grown hg (own_far_lt (b := w3.heap.size) oc_gk.out (by omega)) q12_20
    have q13_21 : w13.cell? ⟨w3.heap.size, 5, none⟩ = some (.int .i64 be) := cell_far_grown hg (own_far_lt (b := w3.heap.size) oc_gk.out (by omega)) q12_21
    have q13_22 : w13.cell? ⟨w3.heap.size, 6, none⟩ = some (.int .i64 gu) := cell_far_grown hg (own_far_lt (b := w3.heap.size) oc_gk.out (by omega)) q12_22
    have q13_23 : w13.cell? ⟨g5, 0, none⟩ = some (.int .i64 U) := cell_far_grown hg hn_gk.out q12_23
    have q13_24 : w13.cell? ⟨g5, 1, none⟩ = some (.int .i64 LO) := cell_far_grown hg hn_gk.out q12_24
    have q13_25 : w13.cell? ⟨g5, 2, none⟩ = some (.slice Aga N cga) := cell_far_grown hg hn_gk.out q12_25
    have q13_26 : w13.cell? ⟨g5, 3, none⟩ = some (.slice Agk NK cgk) := cell_far_grown hg hn_gk.out q12_26
    have q13_27 : w13.cell? ⟨g5, 4, none⟩ = some (.slice Agi NI cgi) := cell_far_grown hg hn_gk.out q12_27
    have q13_28 : w13.cell? ⟨g5, 5, none⟩ = some (.int .i64 BE) := cell_far_grown hg hn_gk.out q12_28
    have q13_29 : w13.cell? ⟨g5, 6, none⟩ = some (.int .i64 GU) := cell_far_grown hg hn_gk.out q12_29
    have b13 := Lib.hid (below_grown' o12_gk.out (by omega) b12.out hg)
    have t13 : w.heap.size ≤ w13.heap.size := b13.out.size
    have o13_wa := Lib.hid (o12_wa.out.kept hg (own_ne' oc_wa.out oc_gk.out (by omega)))
    have o13_wk := Lib.hid (o12_wk.out.kept hg (own_ne' oc_wk.out oc_gk.out (by omega)))
    have o13_wi := Lib.hid (o12_wi.out.kept hg (own_ne' oc_wi.out oc_gk.out (by omega)))
    have o13_xi := Lib.hid (o12_xi.out.kept hg (own_ne' oc_xi.out oc_gk.out (by omega)))
    have o13_xa := Lib.hid (o12_xa.out.kept hg (own_ne' oc_xa.out oc_gk.out (by omega)))
    have o13_xk := Lib.hid (o12_xk.out.kept hg (own_ne' oc_xk.out oc_gk.out (by omega)))
    clear q12_0 q12_1 q12_2 q12_3 q12_4 q12_5 q12_6 q12_7 q12_8 q12_9 q12_10 q12_11 q12_12 q12_13 q12_14 q12_15 q12_16 q12_17 q12_18 q12_19 q12_20 q12_21 q12_22 q12_23 q12_24 q12_25 q12_26 q12_27 q12_28 q12_29
    clear hg
    have o13_gi := Lib.hid hi2
    have hg := hg3
    have s14 : w13.heap.size ≤ w14.heap.size := (by have := hg.size; (try simp at this); omega)
    have z14_0 : w.heap.size < w14.heap.size := (by omega)
    have z14_1 : w.heap.size + 1 < w14.heap.size := (by omega)
    have z14_2 : g2 < w14.heap.size := (by omega)
    have z14_3 : w3.heap.size < w14.heap.size := (by omega)
    have z14_4 : g5 < w14.heap.size := (by omega)
    have q14_0 : w14.cell? ⟨w.heap.size, 0, none⟩ = some (.int .i64 u) := cell_far_grown hg (own_far_lt (b := w.heap.size) oc_gi.out (by omega)) q13_0
    have q14_1 : w14.cell? ⟨w.heap.size, 1, none⟩ = some (.int .i64 lo) := cell_far_grown hg (own_far_lt (b := w.heap.size) oc_gi.out (by omega)) q13_1
    have q14_2 : w14.cell? ⟨w.heap.size, 2, none⟩ = some (.slice A n c) := cell_far_grown hg (own_far_lt (b := w.heap.size) oc_gi.out (by omega)) q13_2
    have q14_3 : w14.cell? ⟨w.heap.size, 3, none⟩ = some (.slice K k kc) := cell_far_grown hg (own_far_lt (b := w.heap.size) oc_gi.out (by omega)) q13_3
    have q14_4 : w14.cell? ⟨w.heap.size, 4, none⟩ = some (.slice I m ic) := cell_far_grown hg (own_far_lt (b := w.heap.size) oc_gi.out (by omega)) q13_4
    have q14_5 : w14.cell? ⟨w.heap.size, 5, none⟩ = some (.int .i64 be) := cell_far_grown hg (own_far_lt (b := w.heap.size) oc_gi.out (by omega)) q13_5
    have q14_6 : w14.cell? ⟨w.heap.size, 6, none⟩ = some (.int .i64 gu) := cell_far_grown hg (own_far_lt (b := w.heap.size) oc_gi.out (by omega)) q13_6
    have q14_7 : w14.cell? ⟨w.heap.size + 1, 0, none⟩ = some (.int .i64 kd) := cell_far_grown hg (own_far_lt (b := w.heap.size + 1) oc_gi.out (by omega)) q13_7
    have q14_8 : w14.cell? ⟨w.heap.size + 1, 1, none⟩ = some (.int .i64 v) := cell_far_grown hg (own_far_lt (b := w.heap.size + 1) oc_gi.out (by omega)) q13_8
    have q14_9 : w14.cell? ⟨g2, 0, none⟩ = some (.int .i64 U) := cell_far_grown hg (own_far_lt (b := g2) oc_gi.out (by omega)) q13_9
    have q14_10 : w14.cell? ⟨g2, 1, none⟩ = some (.int .i64 LO) := cell_far_grown hg (own_far_lt (b := g2) oc_gi.out (by omega)) q13_10
    have q14_11 : w14.cell? ⟨g2, 2, none⟩ = some (.slice Awa N cwa) := cell_far_grown hg (own_far_lt (b := g2) oc_gi.out (by omega)) q13_11
    have q14_12 : w14.cell? ⟨g2, 3, none⟩ = some (.slice Awk NK cwk) := cell_far_grown hg (own_far_lt (b := g2) oc_gi.out (by omega)) q13_12
    have q14_13 : w14.cell? ⟨g2, 4, none⟩ = some (.slice Awi NI cwi) := cell_far_grown hg (own_far_lt (b := g2) oc_gi.out (by omega)) q13_13
    have q14_14 : w14.cell? ⟨g2, 5, none⟩ = some (.int .i64 BE) := cell_far_grown hg (own_far_lt (b := g2) oc_gi.out (by omega)) q13_14
    have q14_15 : w14.cell? ⟨g2, 6, none⟩ = some (.int .i64 GU) := cell_far_grown hg (own_far_lt (b := g2) oc_gi.out (by omega)) q13_15
    have q14_16 : w14.cell? ⟨w3.heap.size, 0, none⟩ = some (.int .i64 u) := cell_far_grown hg (own_far_lt (b := w3.heap.size) oc_gi.out (by omega)) q13_16
    have q14_17 : w14.cell? ⟨w3.heap.size, 1, none⟩ = some (.int .i64 lo) := cell_far_grown hg (own_far_lt (b := w3.heap.size) oc_gi.out (by omega)) q13_17
    have q14_18 : w14.cell? ⟨w3.heap.size, 2, none⟩ = some (.slice Axa n cxa) := cell_far_grown hg (own_far_lt (b := w3.heap.size) oc_gi.out (by omega)) q13_18
    have q14_19 : w14.cell? ⟨w3.heap.size, 3, none⟩ = some (.slice Axk k cxk) := cell_far_grown hg (own_far_lt (b := w3.heap.size) oc_gi.out (by omega)) q13_19
    have q14_20 : w14.cell? ⟨w3.heap.size, 4, none⟩ = some (.slice Axi m cxi) := cell_far_grown hg (own_far_lt (b := w3.heap.size) oc_gi.out (by omega)) q13_20
    have q14_21 : w14.cell? ⟨w3.heap.size, 5, none⟩ = some (.int .i64 be) := cell_far_grown hg (own_far_lt (b := w3.heap.size) oc_gi.out (by omega)) q13_21
    have q14_22 : w14.cell? ⟨w3.heap.size, 6, none⟩ = some (.int .i64 gu) := cell_far_grown hg (own_far_lt (b := w3.heap.size) oc_gi.out (by omega)) q13_22
    have q14_23 : w14.cell? ⟨g5, 0, none⟩ = some (.int .i64 U) := cell_far_grown hg hn_gi.out q13_23
    have q14_24 : w14.cell? ⟨g5, 1, none⟩ = some (.int .i64 LO) := cell_far_grown hg hn_gi.out q13_24
    have q14_25 : w14.cell? ⟨g5, 2, none⟩ = some (.slice Aga N cga) := cell_far_grown hg hn_gi.out q13_25
    have q14_26 : w14.cell? ⟨g5, 3, none⟩ = some (.slice Agk NK cgk) := cell_far_grown hg hn_gi.out q13_26
    have q14_27 : w14.cell? ⟨g5, 4, none⟩ = some (.slice Agi NI cgi) := cell_far_grown hg hn_gi.out q13_27
    have q14_28 : w14.cell? ⟨g5, 5, none⟩ = some (.int .i64 BE) := cell_far_grown hg hn_gi.out q13_28
    have q14_29 : w14.cell? ⟨g5, 6, none⟩ = some (.int .i64 GU) := cell_far_grown hg hn_gi.out q13_29
    have b14 := Lib.hid (below_grown' o13_gi.out (by omega) b13.out hg)
    have t14 : w.heap.size ≤ w14.heap.size := b14.out.size
    have o14_wa := Lib.hid (o13_wa.out.kept hg (own_ne' oc_wa.out oc_gi.out (by omega)))
    have o14_wk := Lib.hid (o13_wk.out.kept hg (own_ne' oc_wk.out oc_gi.out (by omega)))
    have o14_wi := Lib.hid (o13_wi.out.kept hg (own_ne' oc_wi.out oc_gi.out (by omega)))
    have o14_xi := Lib.hid (o13_xi.out.kept hg (own_ne' oc_xi.out oc_gi.out (by omega)))
    have o14_xa := Lib.hid (o13_xa.out.kept hg (own_ne' oc_xa.out oc_gi.out (by omega)))
    have o14_xk := Lib.hid (o13_xk.out.kept hg (own_ne' oc_xk.out oc_gi.out (by omega)))
    clear q13_0 q13_1 q13_2 q13_3 q13_4 q13_5 q13_6 q13_7 q13_8 q13_9 q13_10 q13_11 q13_12 q13_13 q13_14 q13_15 q13_16 q13_17 q13_18 q13_19 q13_20 q13_21 q13_22 q13_23 q13_24 q13_25 q13_26 q13_27 q13_28 q13_29
    clear hg
    have o14_ga := Lib.hid hoa
    have o14_gk := Lib.hid hok
    have o14_gi := Lib.hid hoi
    clear hg1 hg2 hg3 hk1 hi2 hoa hok hoi
    go_wp2_with fail
    refine (heldMind_any U LO Aga N cga Agk NK cgk Agi NI cgi BE GU _ hN hNK hNI (Reads.of_own o14_ga.out) (Reads.of_own o14_gk.out) (Reads.of_own o14_gi.out)).mono ?_
    rintro e w15 ⟨rfl, hb⟩
    have s15 : w14.heap.size ≤ w15.heap.size := (by have := hb.size; (try simp at this); omega)
    have z15_0 : w.heap.size < w15.heap.size := (by omega)
    have z15_1 : w.heap.size + 1 < w15.heap.size := (by omega)
    have z15_2 : g2 < w15.heap.size := (by omega)
    have z15_3 : w3.heap.size < w15.heap.size := (by omega)
    have z15_4 : g5 < w15.heap.size := (by omega)
    have q15_0 : w15.cell? ⟨w.heap.size, 0, none⟩ = some (.int .i64 u) := ext_cell hb q14_0
    have q15_1 : w15.cell? ⟨w.heap.size, 1, none⟩ = some (.int .i64 lo) := ext_cell hb q14_1
    have q15_2 : w15.cell? ⟨w.heap.size, 2, none⟩ = some (.slice A n c) := ext_cell hb q14_2
    have q15_3 : w15.cell? ⟨w.heap.size, 3, none⟩ = some (.slice K k kc) := ext_cell hb q14_3
    have q15_4 : w15.cell? ⟨w.heap.size, 4, none⟩ = some (.slice I m ic) := ext_cell hb q14_4
    have q15_5 : w15.cell? ⟨w.heap.size, 5, none⟩ = some (.int .i64 be) := ext_cell hb q14_5
    have q15_6 : w15.cell? ⟨w.heap.size, 6, none⟩ = some (.int .i64 gu) := ext_cell hb q14_6
    have q15_7 : w15.cell? ⟨w.heap.size + 1, 0, none⟩ = some (.int .i64 kd) := ext_cell hb q14_7
    have q15_8 : w15.cell? ⟨w.heap.size + 1, 1, none⟩ = some (.int .i64 v) := ext_cell hb q14_8
    have q15_9 : w15.cell? ⟨g2, 0, none⟩ = some (.int .i64 U) := ext_cell hb q14_9
    have q15_10 : w15.cell? ⟨g2, 1, none⟩ = some (.int .i64 LO) := ext_cell hb q14_10
    have q15_11 : w15.cell? ⟨g2, 2, none⟩ = some (.slice Awa N cwa) := ext_cell hb q14_11
    have q15_12 : w15.cell? ⟨g2, 3, none⟩ = some (.slice Awk NK cwk) := ext_cell hb q14_12
    have q15_13 : w15.cell? ⟨g2, 4, none⟩ = some (.slice Awi NI cwi) := ext_cell hb q14_13
    have q15_14 : w15.cell? ⟨g2, 5, none⟩ = some (.int .i64 BE) := ext_cell hb q14_14
    have q15_15 : w15.cell? ⟨g2, 6, none⟩ = some (.int .i64 GU) := ext_cell hb q14_15
    have q15_16 : w15.cell? ⟨w3.heap.size, 0, none⟩ = some (.int .i64 u) := ext_cell hb q14_16
    have q15_17 : w15.cell? ⟨w3.heap.size, 1, none⟩ = some (.int .i64 lo) := ext_cell hb q14_17
    have q15_18 : w15.cell? ⟨w3.heap.size, 2, none⟩ = some (.slice Axa n cxa) := ext_cell hb q14_18
    have q15_19 : w15.cell? ⟨w3.heap.size, 3, none⟩ = some (.slice Axk k cxk) := ext_cell hb q14_19
    have q15_20 : w15.cell? ⟨w3.heap.size, 4, none⟩ = some (.slice Axi m cxi) := ext_cell hb q14_20
    have q15_21 : w15.cell? ⟨w3.heap.size, 5, none⟩ = some (.int .i64 be) := ext_cell hb q14_21
    have q15_22 : w15.cell? ⟨w3.heap.size, 6, none⟩ = some (.int .i64 gu) := ext_cell hb q14_22
    have q15_23 : w15.cell? ⟨g5, 0, none⟩ = some (.int .i64 U) := ext_cell hb q14_23
    have q15_24 : w15.cell? ⟨g5, 1, none⟩ = some (.int .i64 LO) := ext_cell hb q14_24
    have q15_25 : w15.cell? ⟨g5, 2, none⟩ = some (.slice Aga N cga) := ext_cell hb q14_25
    have q15_26 : w15.cell? ⟨g5, 3, none⟩ = some (.slice Agk NK cgk) := ext_cell hb q14_26
    have q15_27 : w15.cell? ⟨g5, 4, none⟩ = some (.slice Agi NI cgi) := ext_cell hb q14_27
    have q15_28 : w15.cell? ⟨g5, 5, none⟩ = some (.int .i64 BE) := ext_cell hb q14_28
    have q15_29 : w15.cell? ⟨g5, 6, none⟩ = some (.int .i64 GU) := ext_cell hb q14_29
    have b15 := Lib.hid (ext_trans b14.out hb)
    have t15 : w.heap.size ≤ w15.heap.size := b15.out.size
    have o15_wa := Lib.hid (own_ext o14_wa.out hb)
    have o15_wk := Lib.hid (own_ext o14_wk.out hb)
    have o15_wi := Lib.hid (own_ext o14_wi.out hb)
    have o15_xi := Lib.hid (own_ext o14_xi.out hb)
    have o15_xa := Lib.hid (own_ext o14_xa.out hb)
    have o15_xk := Lib.hid (own_ext o14_xk.out hb)
    have o15_gi := Lib.hid (own_ext o14_gi.out hb)
    have o15_ga := Lib.hid (own_ext o14_ga.out hb)
    have o15_gk := Lib.hid (own_ext o14_gk.out hb)
    clear q14_0 q14_1 q14_2 q14_3 q14_4 q14_5 q14_6 q14_7 q14_8 q14_9 q14_10 q14_11 q14_12 q14_13 q14_14 q14_15 q14_16 q14_17 q14_18 q14_19 q14_20 q14_21 q14_22 q14_23 q14_24 q14_25 q14_26 q14_27 q14_28 q14_29
    clear hb
    have B0 := Lib.hid b15.out
    go_upto_region 24 with fail
    refine wp_region_left (by kernel_rfl) (by kernel_rfl) [14, 15, 79, 80, 81, 82, 83, 84, 85, 86] SmCU (by kernel_rfl) (by decide) 87 (by kernel_rfl) (by simp) (fun a0 => a0.eval (.tmp 2) = .pointer (some ⟨w.heap.size, 0, none⟩) ∧ a0.eval (.tmp 3) = .pointer (some ⟨w.heap.size + 1, 0, none⟩)) ⟨by kernel_rfl, by kernel_rfl⟩ (fun _ wx => Below w15.heap.size w15 wx) (fun wx wy => Below wx.heap.size wx wy) 9 (KeepW 47) (fun j vs wx => SmC w15.heap.size u lo n l k cl m im be gu kd v A c K kc I ic U LO N L NK CL NI IM BE GU ok vs wx j) ((ext_refl w15).drew) (fun j vs us w w' h ha hb => SmC_ext h ha hb) (fun j vs us w w' hne h ha hb => SmC_set h ha hne hb) ?_ ?_
    · intro a0 hE i o ho Qx vs wx b KX kk HBw hdep b0 bk HK
      repeat (rename_i hz9; clear hz9)
      obtain ⟨q2, q3⟩ := hE
      have hi : i < 11 := by
        rcases Nat.lt_or_ge i 11 with h | h
        · exact h
        · rw [Array.getElem?_eq_none (by simpa using h)] at ho; cases ho
      have HBX := Lib.hid HBw
      have hsz := HBw.size
      clear HBw
      rcases (show i = 0 ∨ i = 1 ∨ i = 2 ∨ i = 3 ∨ i = 4 ∨ i = 5 ∨ i = 6 ∨ i = 7 ∨ i = 8 ∨ i = 9 ∨ i = 10 by omega) with rfl | rfl | rfl | rfl | rfl | rfl | rfl | rfl | rfl | rfl | rfl
      · simp only [List.getElem?_toArray, List.getElem?_cons_succ, List.getElem?_cons_zero, Option.some.injEq] at ho
        subst ho
        have HKX := Lib.hid HK
        clear HK
        have p2 := (b0 2 (by decide)).trans q2
        have c0 := ext_cell HBX.out q15_0
        have c1 := ext_cell HBX.out q15_1
        have c2 := ext_cell HBX.out q15_2
        have c3 := ext_cell HBX.out q15_3
        have c4 := ext_cell HBX.out q15_4
        have c5 := ext_cell HBX.out q15_5
        have c6 := ext_cell HBX.out q15_6
        have c7 := ext_cell HBX.out q15_7
        have c8 := ext_cell HBX.out q15_8
        have l0 : w.heap.size < wx.heap.size := Nat.lt_of_lt_of_le z15_0 hsz
        have l1 : w.heap.size + 1 < wx.heap.size := Nat.lt_of_lt_of_le z15_1 hsz
        clear b0 bk hdep
        go_simp
        exact HKX.out _ _ HBX.out (by rw [if_neg (by decide)]; exact ext_refl _) (upd_same _ _ _)
      · simp only [List.getElem?_toArray, List.getElem?_cons_succ, List.getElem?_cons_zero, Option.some.injEq] at ho
        subst ho
        have HKX := Lib.hid HK
        clear HK
        have e0 : vs 80 = mdV u lo A n c K k kc I m ic be gu := (hdep 0 (by kernel_rfl))
        have r0 := (bk 80 (by decide)).trans e0
        have E0 := Lib.hid e0
        clear e0
        clear b0 bk hdep
        go_simp
        refine (toMind_any u lo A n c l K k kc cl I m ic im be gu _ hn hk hm ((H.out.ext (ext_trans B0.out HBX.out) (Nat.le_refl _)).more (Nat.le_trans B0.out.size hsz)) ((HC.out.ext (ext_trans B0.out HBX.out) (Nat.le_refl _)).more (Nat.le_trans B0.out.size hsz)) ((HI.out.ext (ext_trans B0.out HBX.out) (Nat.le_refl _)).more (Nat.le_trans B0.out.size hsz))).mono ?_
        rintro e w' ⟨Axa, cxa, Axk, cxk, Axi, cxi, rfl, _, n0, n1, n2, hb⟩
        go_simp
        exact HKX.out _ _ (ext_trans HBX.out hb) (by rw [if_neg (by decide)]; exact hb) (⟨Axa, cxa, Axk, cxk, Axi, cxi, upd_same _ _ _, own_base n0 hsz, own_base n1 hsz, own_base n2 hsz⟩)
      · simp only [List.getElem?_toArray, List.getElem?_cons_succ, List.getElem?_cons_zero, Option.some.injEq] at ho
        subst ho
        have HKX := Lib.hid HK
        clear HK
        have p3 := (b0 3 (by decide)).trans q3
        have c0 := ext_cell HBX.out q15_0
        have c1 := ext_cell HBX.out q15_1
        have c2 := ext_cell HBX.out q15_2
        have c3 := ext_cell HBX.out q15_3
        have c4 := ext_cell HBX.out q15_4
        have c5 := ext_cell HBX.out q15_5
        have c6 := ext_cell HBX.out q15_6
        have c7 := ext_cell HBX.out q15_7
        have c8 := ext_cell HBX.out q15_8
        have l0 : w.heap.size < wx.heap.size := Nat.lt_of_lt_of_le z15_0 hsz
        have l1 : w.heap.size + 1 < wx.heap.size := Nat.lt_of_lt_of_le z15_1 hsz
        clear b0 bk hdep
        go_simp
        exact HKX.out _ _ HBX.out (by rw [if_neg (by decide)]; exact ext_refl _) (upd_same _ _ _)
      · simp only [List.getElem?_toArray, List.getElem?_cons_succ, List.getElem?_cons_zero, Option.some.injEq] at ho
        subst ho
        have HKX := Lib.hid HK
        clear HK
        have e2 : vs 82 = .agg #[.int .i64 kd, .int .i64 v] := (hdep 2 (by kernel_rfl))
        have r2 := (bk 82 (by decide)).trans e2
        have E2 := Lib.hid e2
        clear e2
        clear b0 bk hdep
        go_simp
        refine (toMindStep_any ⟨kd, v⟩ _).mono ?_
        rintro e w' ⟨rfl, hb⟩
        go_simp
        exact HKX.out _ _ (ext_trans HBX.out hb) (by rw [if_neg (by decide)]; exact hb) (upd_same _ _ _)
      · simp only [List.getElem?_toArray, List.getElem?_cons_succ, List.getElem?_cons_zero, Option.some.injEq] at ho
        subst ho
        have HKX := Lib.hid HK
        clear HK
        obtain ⟨Axa, cxa, Axk, cxk, Axi, cxi, e1, k1_0, k1_1, k1_2⟩ := (hdep 1 (by kernel_rfl))
        have e3 : vs 83 = .agg #[.int .i64 kd, .int .i64 v] := (hdep 3 (by kernel_rfl))
        have r1 := (bk 81 (by decide)).trans e1
        have r3 := (bk 83 (by decide)).trans e3
        have E1 := Lib.hid e1
        clear e1
        have E3 := Lib.hid e3
        clear e3
        have K1_0 := Lib.hid k1_0
        clear k1_0
        have K1_1 := Lib.hid k1_1
        clear k1_1
        have K1_2 := Lib.hid k1_2
        clear k1_2
        clear b0 bk hdep
        go_simp
        refine (HB.out _ Axa cxa Axk cxk Axi cxi (Reads.of_own K1_0.out) (Reads.of_own K1_1.out) (Reads.of_own K1_2.out)).mono ?_
        rintro e w' ⟨Ara, cra, Ark, crk, Ari, cri, rfl, n0, n1, n2, n3, hb⟩
        go_simp
        exact HKX.out _ _ (ext_trans HBX.out hb) (by rw [if_neg (by decide)]; exact hb) (⟨Ara, cra, Ark, crk, Ari, cri, upd_same _ _ _, n0, own_base n1 hsz, own_base n2 hsz, own_base n3 hsz⟩)
      · simp only [List.getElem?_toArray, List.getElem?_cons_succ, List.getElem?_cons_zero, Option.some.injEq] at ho
        subst ho
        have HKX := Lib.hid HK
        clear HK
        obtain ⟨Ara, cra, Ark, crk, Ari, cri, e4, k4_0, k4_1, k4_2, k4_3⟩ := (hdep 4 (by kernel_rfl))
        have r4 := (bk 84 (by decide)).trans e4
        have E4 := Lib.hid e4
        clear e4
        have K4_0 := Lib.hid k4_0
        clear k4_0
        have K4_1 := Lib.hid k4_1
        clear k4_1
        have K4_2 := Lib.hid k4_2
        clear k4_2
        have K4_3 := Lib.hid k4_3
        clear k4_3
        clear b0 bk hdep
        go_simp
        exact HKX.out _ _ HBX.out (by rw [if_neg (by decide)]; exact ext_refl _) (⟨Ara, cra, Ark, crk, Ari, cri, upd_same _ _ _, K4_0.out, K4_1.out, K4_2.out, K4_3.out⟩)
      · simp only [List.getElem?_toArray, List.getElem?_cons_succ, List.getElem?_cons_zero, Option.some.injEq] at ho
        subst ho
        have HKX := Lib.hid HK
        clear HK
        obtain ⟨Ara, cra, Ark, crk, Ari, cri, e5, k5_0, k5_1, k5_2, k5_3⟩ := (hdep 5 (by kernel_rfl))
        have r5 := (bk 79 (by decide)).trans e5
        have E5 := Lib.hid e5
        clear e5
        have K5_0 := Lib.hid k5_0
        clear k5_0
        have K5_1 := Lib.hid k5_1
        clear k5_1
        have K5_2 := Lib.hid k5_2
        clear k5_2
        have K5_3 := Lib.hid k5_3
        clear k5_3
        clear b0 bk hdep
        go_simp
        exact HKX.out _ _ HBX.out (by rw [if_neg (by decide)]; exact ext_refl _) (⟨Ara, cra, Ark, crk, Ari, cri, upd_same _ _ _, K5_0.out, K5_1.out, K5_2.out, K5_3.out⟩)
      · simp only [List.getElem?_toArray, List.getElem?_cons_succ, List.getElem?_cons_zero, Option.some.injEq] at ho
        subst ho
        have HKX := Lib.hid HK
        clear HK
        obtain ⟨Ara, cra, Ark, crk, Ari, cri, e5, k5_0, k5_1, k5_2, k5_3⟩ := (hdep 5 (by kernel_rfl))
        have r5 := (bk 79 (by decide)).trans e5
        have E5 := Lib.hid e5
        clear e5
        have K5_0 := Lib.hid k5_0
        clear k5_0
        have K5_1 := Lib.hid k5_1
        clear k5_1
        have K5_2 := Lib.hid k5_2
        clear k5_2
        have K5_3 := Lib.hid k5_3
        clear k5_3
        clear b0 bk hdep
        go_simp
        exact HKX.out _ _ HBX.out (by rw [if_neg (by decide)]; exact ext_refl _) (⟨Ara, cra, Ark, crk, Ari, cri, upd_same _ _ _⟩)
      · simp only [List.getElem?_toArray, List.getElem?_cons_succ, List.getElem?_cons_zero, Option.some.injEq] at ho
        subst ho
        have HKX := Lib.hid HK
        clear HK
        clear b0 bk hdep
        go_simp
        exact HKX.out _ _ (ext_alloc HBX.out _) (by rw [if_neg (by decide)]; exact ext_alloc (ext_refl _) _) ⟨wx.heap.size, upd_same _ _ _, hsz, _, _, _, _, _, _, _, Blk.born _ _ _ rfl⟩
      · simp only [List.getElem?_toArray, List.getElem?_cons_succ, List.getElem?_cons_zero, Option.some.injEq] at ho
        subst ho
        have HKX := Lib.hid HK
        clear HK
        obtain ⟨g, e8, hs8, c0, c1, c2, c3, c4, c5, c6, hB8⟩ := (hdep 8 (by kernel_rfl))
        obtain ⟨Ara, cra, Ark, crk, Ari, cri, e6, k6_0, k6_1, k6_2, k6_3⟩ := (hdep 6 (by kernel_rfl))
        have r8 := (bk 14 (by decide)).trans e8
        have r6 := (bk 85 (by decide)).trans e6
        have E8 := Lib.hid e8
        clear e8
        have E6 := Lib.hid e6
        clear e6
        have K6_0 := Lib.hid k6_0
        clear k6_0
        have K6_1 := Lib.hid k6_1
        clear k6_1
        have K6_2 := Lib.hid k6_2
        clear k6_2
        have K6_3 := Lib.hid k6_3
        clear k6_3
        have hlt := hB8.lt
        obtain ⟨y0, y1, y2, y3, y4, y5, y6⟩ := hB8.q7
        obtain ⟨z0, z1, z2, z3, z4, z5, z6⟩ := hB8.z7
        have HBB := Lib.hid hB8
        clear hB8 b0 bk hdep
        go_simp
        have HKW := Lib.hid (keep7 (a0 := .int .i64 U) (a1 := .int .i64 LO) (a2 := .slice Ara N cra) (a3 := .slice Ark NK crk) (a4 := .slice Ari NI cri) (a5 := .int .i64 BE) (a6 := .int .i64 GU) HBB.out)
        exact HKX.out undef _ (bel7 HBX.out hs8) (by rw [if_pos rfl]; exact HKW.out) ⟨g, Ara, cra, Ark, crk, Ari, cri, E8.out, hs8, put7 HBB.out, K6_0.out, HKW.out.own K6_1.out (by decide), HKW.out.own K6_2.out (by decide), HKW.out.own K6_3.out (by decide)⟩
      · simp only [List.getElem?_toArray, List.getElem?_cons_succ, List.getElem?_cons_zero, Option.some.injEq] at ho
        subst ho
        have HKX := Lib.hid HK
        clear HK
        obtain ⟨Ara, cra, Ark, crk, Ari, cri, e7⟩ := (hdep 7 (by kernel_rfl))
        have r7 := (bk 86 (by decide)).trans e7
        have E7 := Lib.hid e7
        clear e7
        clear b0 bk hdep
        go_simp
        exact HKX.out _ _ HBX.out (by rw [if_neg (by decide)]; exact ext_refl _) (⟨Ara, cra, Ark, crk, Ari, cri, upd_same _ _ _⟩)
    intro vs wx kk hb hall
    obtain ⟨g16, Aha, cha, Ahk, chk, Ahi, chi, e1, hgl16, hB, hne_h, ho_ha, ho_hk, ho_hi⟩ := hall 9 (by decide)
    obtain ⟨_, _, _, _, _, _, e2⟩ := hall 10 (by decide)
    clear hall
    simp only [sl]
    rw [e1, e2]
    clear e1 e2
    obtain ⟨w16, hw16⟩ : ∃ x : World, x = wx := ⟨_, rfl⟩
    subst hw16
    have Hhne_h := Lib.hid hne_h
    clear hne_h
    have HB16 := Lib.hid hB
    have hgs16 := hB.lt
    have hn_ha := Lib.hid (own_nbT ho_ha hB (by decide))
    have hn_hk := Lib.hid (own_nbT ho_hk hB (by decide))
    have hn_hi := Lib.hid (own_nbT ho_hi hB (by decide))
    have s16 : w15.heap.size ≤ w16.heap.size := (by have := hb.size; (try simp at this); omega)
    have z16_0 : w.heap.size < w16.heap.size := (by omega)
    have z16_1 : w.heap.size + 1 < w16.heap.size := (by omega)
    have z16_2 : g2 < w16.heap.size := (by omega)
    have z16_3 : w3.heap.size < w16.heap.size := (by omega)
    have z16_4 : g5 < w16.heap.size := (by omega)
    have q16_0 : w16.cell? ⟨w.heap.size, 0, none⟩ = some (.int .i64 u) := ext_cell hb q15_0
    have q16_1 : w16.cell? ⟨w.heap.size, 1, none⟩ = some (.int .i64 lo) := ext_cell hb q15_1
    have q16_2 : w16.cell? ⟨w.heap.size, 2, none⟩ = some (.slice A n c) := ext_cell hb q15_2
    have q16_3 : w16.cell? ⟨w.heap.size, 3, none⟩ = some (.slice K k kc) := ext_cell hb q15_3
    have q16_4 : w16.cell? ⟨w.heap.size, 4, none⟩ = some (.slice I m ic) := ext_cell hb q15_4
    have q16_5 : w16.cell? ⟨w.heap.size, 5, none⟩ = some (.int .i64 be) := ext_cell hb q15_5
    have q16_6 : w16.cell? ⟨w.heap.size, 6, none⟩ = some (.int .i64 gu) := ext_cell hb q15_6
    have q16_7 : w16.cell? ⟨w.heap.size + 1, 0, none⟩ = some (.int .i64 kd) := ext_cell hb q15_7
    have q16_8 : w16.cell? ⟨w.heap.size + 1, 1, none⟩ = some (.int .i64 v) := ext_cell hb q15_8
    have q16_9 : w16.cell? ⟨g2, 0, none⟩ = some (.int .i64 U) := ext_cell hb q15_9
    have q16_10 : w16.cell? ⟨g2, 1, none⟩ = some (.int .i64 LO) := ext_cell hb q15_10
    have q16_11 : w16.cell? ⟨g2, 2, none⟩ = some (.slice Awa N cwa) := ext_cell hb q15_11
    have q16_12 : w16.cell? ⟨g2, 3, none⟩ = some (.slice Awk NK cwk) := ext_cell hb q15_12
    have q16_13 : w16.cell? ⟨g2, 4, none⟩ = some (.slice Awi NI cwi) := ext_cell hb q15_13
    have q16_14 : w16.cell? ⟨g2, 5, none⟩ = some (.int .i64 BE) := ext_cell hb q15_14
    have q16_15 : w16.cell? ⟨g2, 6, none⟩ = some (.int .i64 GU) := ext_cell hb q15_15
    have q16_16 : w16.cell? ⟨w3.heap.size, 0, none⟩ = some (.int .i64 u) := ext_cell hb q15_16
    have q16_17 : w16.cell? ⟨w3.heap.size, 1, none⟩ = some (.int .i64 lo) := ext_cell hb q15_17
    have q16_18 : w16.cell? ⟨w3.heap.size, 2, none⟩ = some (.slice Axa n cxa) := ext_cell hb q15_18
    have q16_19 : w16.cell? ⟨w3.heap.size, 3, none⟩ = some (.slice Axk k cxk) := ext_cell hb q15_19
    have q16_20 : w16.cell? ⟨w3.heap.size, 4, none⟩ = some (.slice Axi m cxi) := ext_cell hb q15_20
    have q16_21 : w16.cell? ⟨w3.heap.size, 5, none⟩ = some (.int .i64 be) := ext_cell hb q15_21
    have q16_22 : w16.cell? ⟨w3.heap.size, 6, none⟩ = some (.int .i64 gu) := ext_cell hb q15_22
    have q16_23 : w16.cell? ⟨g5, 0, none⟩ = some (.int .i64 U) := ext_cell hb q15_23
    have q16_24 : w16.cell? ⟨g5, 1, none⟩ = some (.int .i64 LO) := ext_cell hb q15_24
    have q16_25 : w16.cell? ⟨g5, 2, none⟩ = some (.slice Aga N cga) := ext_cell hb q15_25
    have q16_26 : w16.cell? ⟨g5, 3, none⟩ = some (.slice Agk NK cgk) := ext_cell hb q15_26
    have q16_27 : w16.cell? ⟨g5, 4, none⟩ = some (.slice Agi NI cgi) := ext_cell hb q15_27
    have q16_28 : w16.cell? ⟨g5, 5, none⟩ = some (.int .i64 BE) := ext_cell hb q15_28
    have q16_29 : w16.cell? ⟨g5, 6, none⟩ = some (.int .i64 GU) := ext_cell hb q15_29
    have b16 := Lib.hid (ext_trans b15.out hb)
    have t16 : w.heap.size ≤ w16.heap.size := b16.out.size
    have o16_wa := Lib.hid (own_ext o15_wa.out hb)
    have o16_wk := Lib.hid (own_ext o15_wk.out hb)
    have o16_wi := Lib.hid (own_ext o15_wi.out hb)
    have o16_xi := Lib.hid (own_ext o15_xi.out hb)
    have o16_xa := Lib.hid (own_ext o15_xa.out hb)
    have o16_xk := Lib.hid (own_ext o15_xk.out hb)
    have o16_gi := Lib.hid (own_ext o15_gi.out hb)
    have o16_ga := Lib.hid (own_ext o15_ga.out hb)
    have o16_gk := Lib.hid (own_ext o15_gk.out hb)
    clear q15_0 q15_1 q15_2 q15_3 q15_4 q15_5 q15_6 q15_7 q15_8 q15_9 q15_10 q15_11 q15_12 q15_13 q15_14 q15_15 q15_16 q15_17 q15_18 q15_19 q15_20 q15_21 q15_22 q15_23 q15_24 q15_25 q15_26 q15_27 q15_28 q15_29
    obtain ⟨p16_0, p16_1, p16_2, p16_3, p16_4, p16_5, p16_6⟩ := HB16.out.q7
    have z16_5 : g16 < w16.heap.size := hgs16
    have oc_ha := Lib.hid ho_ha
    clear ho_ha
    have oc_hk := Lib.hid ho_hk
    clear ho_hk
    have oc_hi := Lib.hid ho_hi
    clear ho_hi
    clear hb hB B0
    go_wp2_with fail
    refine (eqMind_same U LO Aha Awa N cha cwa L Ahk Awk NK chk cwk CL Ahi Awi NI chi cwi IM BE GU _ hN hNK hNI (Reads.of_own oc_ha.out) (Reads.of_own o16_wa.out) (Reads.of_own oc_hk.out) (Reads.of_own o16_wk.out) (Reads.of_own oc_hi.out) (Reads.of_own o16_wi.out)).mono ?_
    rintro e w17 ⟨rfl, hb⟩
    have s17 : w16.heap.size ≤ w17.heap.size := (by have := hb.size; (try simp at this); omega)
    have z17_0 : w.heap.size < w17.heap.size := (by omega)
    have z17_1 : w.heap.size + 1 < w17.heap.size := (by omega)
    have z17_2 : g2 < w17.heap.size := (by omega)
    have z17_3 : w3.heap.size < w17.heap.size := (by omega)
    have z17_4 : g5 < w17.heap.size := (by omega)
    have z17_5 : g16 < w17.heap.size := (by omega)
    have q17_0 : w17.cell? ⟨w.heap.size, 0, none⟩ = some (.int .i64 u) := ext_cell hb q16_0
    have q17_1 : w17.cell? ⟨w.heap.size, 1, none⟩ = some (.int .i64 lo) := ext_cell hb q16_1
    have q17_2 : w17.cell? ⟨w.heap.size, 2, none⟩ = some (.slice A n c) := ext_cell hb q16_2
    have q17_3 : w17.cell? ⟨w.heap.size, 3, none⟩ = some (.slice K k kc) := ext_cell hb q16_3
    have q17_4 : w17.cell? ⟨w.heap.size, 4, none⟩ = some (.slice I m ic) := ext_cell hb q16_4
    have q17_5 : w17.cell? ⟨w.heap.size, 5, none⟩ = some (.int .i64 be) := ext_cell hb q16_5
    have q17_6 : w17.cell? ⟨w.heap.size, 6, none⟩ = some (.int .i64 gu) := ext_cell hb q16_6
    have q17_7 : w17.cell? ⟨w.heap.size + 1, 0, none⟩ = some (.int .i64 kd) := ext_cell hb q16_7
    have q17_8 : w17.cell? ⟨w.heap.size + 1, 1, none⟩ = some (.int .i64 v) := ext_cell hb q16_8
    have q17_9 : w17.cell? ⟨g2, 0, none⟩ = some (.int .i64 U) := ext_cell hb q16_9
    have q17_10 : w17.cell? ⟨g2, 1, none⟩ = some (.int .i64 LO) := ext_cell hb q16_10
    have q17_11 : w17.cell? ⟨g2, 2, none⟩ = some (.slice Awa N cwa) := ext_cell hb q16_11
    have q17_12 : w17.cell? ⟨g2, 3, none⟩ = some (.slice Awk NK cwk) := ext_cell hb q16_12
    have q17_13 : w17.cell? ⟨g2, 4, none⟩ = some (.slice Awi NI cwi) := ext_cell hb q16_13
    have q17_14 : w17.cell? ⟨g2, 5, none⟩ = some (.int .i64 BE) := ext_cell hb q16_14
    have q17_15 : w17.cell? ⟨g2, 6, none⟩ = some (.int .i64 GU) := ext_cell hb q16_15
    have q17_16 : w17.cell? ⟨w3.heap.size, 0, none⟩ = some (.int .i64 u) := ext_cell hb q16_16
    have q17_17 : w17.cell? ⟨w3.heap.size, 1, none⟩ = some (.int .i64 lo) := ext_cell hb q16_17
    have q17_18 : w17.cell? ⟨w3.heap.size, 2, none⟩ = some (.slice Axa n cxa) := ext_cell hb q16_18
    have q17_19 : w17.cell? ⟨w3.heap.size, 3, none⟩ = some (.slice Axk k cxk) := ext_cell hb q16_19
    have q17_20 : w17.cell? ⟨w3.heap.size, 4, none⟩ = some (.slice Axi m cxi) := ext_cell hb q16_20
    have q17_21 : w17.cell? ⟨w3.heap.size, 5, none⟩ = some (.int .i64 be) := ext_cell hb q16_21
    have q17_22 : w17.cell? ⟨w3.heap.size, 6, none⟩ = some (.int .i64 gu) := ext_cell hb q16_22
    have q17_23 : w17.cell? ⟨g5, 0, none⟩ = some (.int .i64 U) := ext_cell hb q16_23
    have q17_24 : w17.cell? ⟨g5, 1, none⟩ = some (.int .i64 LO) := ext_cell hb q16_24
    have q17_25 : w17.cell? ⟨g5, 2, none⟩ = some (.slice Aga N cga) := ext_cell hb q16_25
    have q17_26 : w17.cell? ⟨g5, 3, none⟩ = some (.slice Agk NK cgk) := ext_cell hb q16_26
    have q17_27 : w17.cell? ⟨g5, 4, none⟩ = some (.slice Agi NI cgi) := ext_cell hb q16_27
    have q17_28 : w17.cell? ⟨g5, 5, none⟩ = some (.int .i64 BE) := ext_cell hb q16_28
    have q17_29 : w17.cell? ⟨g5, 6, none⟩ = some (.int .i64 GU) := ext_cell hb q16_29
    have q17_30 : w17.cell? ⟨g16, 0, none⟩ = some (.int .i64 U) := ext_cell hb p16_0
    have q17_31 : w17.cell? ⟨g16, 1, none⟩ = some (.int .i64 LO) := ext_cell hb p16_1
    have q17_32 : w17.cell? ⟨g16, 2, none⟩ = some (.slice Aha N cha) := ext_cell hb p16_2
    have q17_33 : w17.cell? ⟨g16, 3, none⟩ = some (.slice Ahk NK chk) := ext_cell hb p16_3
    have q17_34 : w17.cell? ⟨g16, 4, none⟩ = some (.slice Ahi NI chi) := ext_cell hb p16_4
    have q17_35 : w17.cell? ⟨g16, 5, none⟩ = some (.int .i64 BE) := ext_cell hb p16_5
    have q17_36 : w17.cell? ⟨g16, 6, none⟩ = some (.int .i64 GU) := ext_cell hb p16_6
    have b17 := Lib.hid (ext_trans b16.out hb)
    have t17 : w.heap.size ≤ w17.heap.size := b17.out.size
    have o17_wa := Lib.hid (own_ext o16_wa.out hb)
    have o17_wk := Lib.hid (own_ext o16_wk.out hb)
    have o17_wi := Lib.hid (own_ext o16_wi.out hb)
    have o17_xi := Lib.hid (own_ext o16_xi.out hb)
    have o17_xa := Lib.hid (own_ext o16_xa.out hb)
    have o17_xk := Lib.hid (own_ext o16_xk.out hb)
    have o17_gi := Lib.hid (own_ext o16_gi.out hb)
    have o17_ga := Lib.hid (own_ext o16_ga.out hb)
    have o17_gk := Lib.hid (own_ext o16_gk.out hb)
    have o17_ha := Lib.hid (own_ext oc_ha.out hb)
    have o17_hk := Lib.hid (own_ext oc_hk.out hb)
    have o17_hi := Lib.hid (own_ext oc_hi.out hb)
    clear q16_0 q16_1 q16_2 q16_3 q16_4 q16_5 q16_6 q16_7 q16_8 q16_9 q16_10 q16_11 q16_12 q16_13 q16_14 q16_15 q16_16 q16_17 q16_18 q16_19 q16_20 q16_21 q16_22 q16_23 q16_24 q16_25 q16_26 q16_27 q16_28 q16_29 p16_0 p16_1 p16_2 p16_3 p16_4 p16_5 p16_6
    clear hb
    go_wp2_with fail
    refine (heldMind_any U LO Aga N cga Agk NK cgk Agi NI cgi BE GU _ hN hNK hNI (Reads.of_own o17_ga.out) (Reads.of_own o17_gk.out) (Reads.of_own o17_gi.out)).mono ?_
    rintro e w18 ⟨rfl, hb⟩
    have s18 : w17.heap.size ≤ w18.heap.size := (by have := hb.size; (try simp at this); omega)
    have z18_0 : w.heap.size < w18.heap.size := (by omega)
    have z18_1 : w.heap.size + 1 < w18.heap.size := (by omega)
    have z18_2 : g2 < w18.heap.size := (by omega)
    have z18_3 : w3.heap.size < w18.heap.size := (by omega)
    have z18_4 : g5 < w18.heap.size := (by omega)
    have z18_5 : g16 < w18.heap.size := (by omega)
    have q18_0 : w18.cell? ⟨w.heap.size, 0, none⟩ = some (.int .i64 u) := ext_cell hb q17_0
    have q18_1 : w18.cell? ⟨w.heap.size, 1, none⟩ = some (.int .i64 lo) := ext_cell hb q17_1
    have q18_2 : w18.cell? ⟨w.heap.size, 2, none⟩ = some (.slice A n c) := ext_cell hb q17_2
    have q18_3 : w18.cell? ⟨w.heap.size, 3, none⟩ = some (.slice K k kc) := ext_cell hb q17_3
    have q18_4 : w18.cell? ⟨w.heap.size, 4, none⟩ = some (.slice I m ic) := ext_cell hb q17_4
    have q18_5 : w18.cell? ⟨w.heap.size, 5, none⟩ = some (.int .i64 be) := ext_cell hb q17_5
    have q18_6 : w18.cell? ⟨w.heap.size, 6, none⟩ = some (.int .i64 gu) := ext_cell hb q17_6
    have q18_7 : w18.cell? ⟨w.heap.size + 1, 0, none⟩ = some (.int .i64 kd) := ext_cell hb q17_7
    have q18_8 : w18.cell? ⟨w.heap.size + 1, 1, none⟩ = some (.int .i64 v) := ext_cell hb q17_8
    have q18_9 : w18.cell? ⟨g2, 0, none⟩ = some (.int .i64 U) := ext_cell hb q17_9
    have q18_10 : w18.cell? ⟨g2, 1, none⟩ = some (.int .i64 LO) := ext_cell hb q17_10
    have q18_11 : w18.cell? ⟨g2, 2, none⟩ = some (.slice Awa N cwa) := ext_cell hb q17_11
    have q18_12 : w18.cell? ⟨g2, 3, none⟩ = some (.slice Awk NK cwk) := ext_cell hb q17_12
    have q18_13 : w18.cell? ⟨g2, 4, none⟩ = some (.slice Awi NI cwi) := ext_cell hb q17_13
    have q18_14 : w18.cell? ⟨g2, 5, none⟩ = some (.int .i64 BE) := ext_cell hb q17_14
    have q18_15 : w18.cell? ⟨g2, 6, none⟩ = some (.int .i64 GU) := ext_cell hb q17_15
    have q18_16 : w18.cell? ⟨w3.heap.size, 0, none⟩ = some (.int .i64 u) := ext_cell hb q17_16
    have q18_17 : w18.cell? ⟨w3.heap.size, 1, none⟩ = some (.int .i64 lo) := ext_cell hb q17_17
    have q18_18 : w18.cell? ⟨w3.heap.size, 2, none⟩ = some (.slice Axa n cxa) := ext_cell hb q17_18
    have q18_19 : w18.cell? ⟨w3.heap.size, 3, none⟩ = some (.slice Axk k cxk) := ext_cell hb q17_19
    have q18_20 : w18.cell? ⟨w3.heap.size, 4, none⟩ = some (.slice Axi m cxi) := ext_cell hb q17_20
    have q18_21 : w18.cell? ⟨w3.heap.size, 5, none⟩ = some (.int .i64 be) := ext_cell hb q17_21
    have q18_22 : w18.cell? ⟨w3.heap.size, 6, none⟩ = some (.int .i64 gu) := ext_cell hb q17_22
    have q18_23 : w18.cell? ⟨g5, 0, none⟩ = some (.int .i64 U) := ext_cell hb q17_23
    have q18_24 : w18.cell? ⟨g5, 1, none⟩ = some (.int .i64 LO) := ext_cell hb q17_24
    have q18_25 : w18.cell? ⟨g5, 2, none⟩ = some (.slice Aga N cga) := ext_cell hb q17_25
    have q18_26 : w18.cell? ⟨g5, 3, none⟩ = some (.slice Agk NK cgk) := ext_cell hb q17_26
    have q18_27 : w18.cell? ⟨g5, 4, none⟩ = some (.slice Agi NI cgi) := ext_cell hb q17_27
    have q18_28 : w18.cell? ⟨g5, 5, none⟩ = some (.int .i64 BE) := ext_cell hb q17_28
    have q18_29 : w18.cell? ⟨g5, 6, none⟩ = some (.int .i64 GU) := ext_cell hb q17_29
    have q18_30 : w18.cell? ⟨g16, 0, none⟩ = some (.int .i64 U) := ext_cell hb q17_30
    have q18_31 : w18.cell? ⟨g16, 1, none⟩ = some (.int .i64 LO) := ext_cell hb q17_31
    have q18_32 : w18.cell? ⟨g16, 2, none⟩ = some (.slice Aha N cha) := ext_cell hb q17_32
    have q18_33 : w18.cell? ⟨g16, 3, none⟩ = some (.slice Ahk NK chk) := ext_cell hb q17_33
    have q18_34 : w18.cell? ⟨g16, 4, none⟩ = some (.slice Ahi NI chi) := ext_cell hb q17_34
    have q18_35 : w18.cell? ⟨g16, 5, none⟩ = some (.int .i64 BE) := ext_cell hb q17_35
    have q18_36 : w18.cell? ⟨g16, 6, none⟩ = some (.int .i64 GU) := ext_cell hb q17_36
    have b18 := Lib.hid (ext_trans b17.out hb)
    have t18 : w.heap.size ≤ w18.heap.size := b18.out.size
    have o18_wa := Lib.hid (own_ext o17_wa.out hb)
    have o18_wk := Lib.hid (own_ext o17_wk.out hb)
    have o18_wi := Lib.hid (own_ext o17_wi.out hb)
    have o18_xi := Lib.hid (own_ext o17_xi.out hb)
    have o18_xa := Lib.hid (own_ext o17_xa.out hb)
    have o18_xk := Lib.hid (own_ext o17_xk.out hb)
    have o18_gi := Lib.hid (own_ext o17_gi.out hb)
    have o18_ga := Lib.hid (own_ext o17_ga.out hb)
    have o18_gk := Lib.hid (own_ext o17_gk.out hb)
    have o18_ha := Lib.hid (own_ext o17_ha.out hb)
    have o18_hk := Lib.hid (own_ext o17_hk.out hb)
    have o18_hi := Lib.hid (own_ext o17_hi.out hb)
    clear q17_0 q17_1 q17_2 q17_3 q17_4 q17_5 q17_6 q17_7 q17_8 q17_9 q17_10 q17_11 q17_12 q17_13 q17_14 q17_15 q17_16 q17_17 q17_18 q17_19 q17_20 q17_21 q17_22 q17_23 q17_24 q17_25 q17_26 q17_27 q17_28 q17_29 q17_30 q17_31 q17_32 q17_33 q17_34 q17_35 q17_36
    clear hb
    go_wp2
    go_ret
    exact ⟨rfl, b18.out⟩
end Go.Proofs.Ytlkfffohjeoooaa
