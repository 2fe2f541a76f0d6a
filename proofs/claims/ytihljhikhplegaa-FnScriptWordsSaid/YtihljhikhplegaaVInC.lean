/- The opposite script: the program's. -/
import Derived.Test.YtihljhikhplegaaVM9
import Derived.Test.YtihljhikhplegaaVAp
import Derived.Test.YtihljhikhplegaaVSfA
namespace Go.Proofs.Ytihljhikhplegaa
open Go.RowKit
set_option linter.unusedVariables false
set_option linter.unusedSimpArgs false
theorem own_lit1 (w0 : World) (E : Nat) (v : Value) {B H : Nat} (hH : H = w0.heap.size) (hB : B ≤ w0.heap.size) : (w0.alloc (.cells #[v] E)).ownsRow B E 1 (.slice (some ⟨H, 0, none⟩) 1 1) 1 [v] := by
 subst hH
 exact ⟨by simp, .inr ⟨w0.heap.size, 1, #[v], rfl, hB, Blk.born w0 #[v] E rfl, Nat.le_refl _, by unfold maxLen; omega, by simp, by simp⟩⟩
theorem strs_one (P : List (List UInt8)) : ∀ u ∈ strsV P, u.oneCell' = true := by
 intro u hu
 unfold strsV at hu
 obtain ⟨x, _, rfl⟩ := List.mem_map.1 hu
 rfl
theorem take_no {l : List UInt8} {q : Nat} {x c : UInt8} (h : c ∉ l.take q) (hx : l[q]? = some x) (hc : x ≠ c) : c ∉ l.take (q + 1) := by
 rw [List.take_add_one, hx]
 intro e
 rcases List.mem_append.1 e with e | e
 · exact h e
 · simp at e; exact hc e.symm
theorem word_c {l : List UInt8} {x : RW} (h : wordO l = some x) (hm : (99 : UInt8) ∈ l) : x.what = 99 := by
 have hp : ∀ {r : List UInt8} {a : UInt8} {d : Nat}, plainO r = some (a, d) → (99 : UInt8) ∈ r → a = 99 := by
  intro r a d hr hm
  rcases plain_inv hr with ⟨_, _, h3⟩ | ⟨h1, y, h3, h4, h5, _⟩
  · rw [h3] at hm; simp at hm; exact hm.symm
  · rw [h3] at hm
    rcases List.mem_cons.1 hm with e | e
    · exact e.symm
    · simp at e
      subst e
      exact absurd h5 (by decide)
 unfold wordO at h
 split at h
 · cases h
 · rename_i c rest
   split at h
   · rename_i hc
     rcases hq : plainO rest with _ | ⟨a, b⟩
     · rw [hq] at h; cases h
     rw [hq] at h
     injection h with h
     subst h
     rcases List.mem_cons.1 hm with e | e
     · subst e
       have := hc.1
       unfold repB at this
       simp at this
     · exact hp hq e
   · rcases hq : plainO (c :: rest) with _ | ⟨a, b⟩
     · rw [hq] at h; cases h
     rw [hq] at h
     injection h with h
     subst h
     exact hp hq hm
theorem word_c' {l : List UInt8} {x : RW} (h : wordO l = some x) (hm : (99 : UInt8) ∉ l) : x.what ≠ 99 := by
 have hp : ∀ {r : List UInt8} {a : UInt8} {d : Nat}, plainO r = some (a, d) → (99 : UInt8) ∉ r → a ≠ 99 := by
  intro r a d hr hm e
  subst e
  rw [plain_c hr] at hm
  exact hm (List.mem_cons_self ..)
 unfold wordO at h
 split at h
 · cases h
 · rename_i c rest
   split at h
   · rcases hq : plainO rest with _ | ⟨a, b⟩
     · rw [hq] at h; cases h
     rw [hq] at h
     injection h with h
     subst h
     exact hp hq fun e => hm (List.mem_cons_of_mem _ e)
   · rcases hq : plainO (c :: rest) with _ | ⟨a, b⟩
     · rw [hq] at h; cases h
     rw [hq] at h
     injection h with h
     subst h
     exact hp hq hm
set_option maxRecDepth 100000 in
set_option maxHeartbeats 16000000 in
theorem implInverse_any (s : ByteArray) (w : World) (hs : s.size ≤ 16777216) : Calls Try.prog 24 #[.string s] w (RetIn s w) := by
 obtain ⟨i0, hi0, hz0, hz1, hz2⟩ := info_parts info_str
 have HR := Lib.hid (fun w => implIsScript_any s w hs)
 unfold RetV at HR
 unfold RetIn
 cases hsc : scrB s
 · rw [hsc] at HR
   rw [show invO s = none by unfold invO; rw [if_neg (by rw [hsc]; simp)]]
   clear hsc
   go_enter Try.func24, Try.ntmps24
   go_wp2_with fail
   refine (HR.out _).mono ?_
   rintro e w1 ⟨rfl, hb1⟩
   go_wp2
   go_ret2
   exact ⟨rfl, hb1⟩
 rw [hsc] at HR
 by_cases hz : s.size = 0
 · have ht0 : s.toList = [] := (sf_nil s).2 hz
   have hw0 : wordsL s = [] := by unfold wordsL; rw [if_pos hz]
   rw [show invO s = some ⟨#[]⟩ by
    rw [inv_some hsc (by unfold rulesL; rw [hw0]; intro x hx; cases hx)]
    unfold invW
    rw [hw0]; rfl]
   clear hsc hw0
   go_enter Try.func24, Try.ntmps24
   go_wp2_with fail
   refine (HR.out _).mono ?_
   rintro e w1 ⟨rfl, hb1⟩
   go_wp2
   go_ret2
   exact ⟨rfl, hb1⟩
 · have ht0 := sf_ne hz
   have ht1 : (s.toList == []) = false := by simpa using ht0
   have hs80 : s.size ≤ 80 := by
    have h := hsc
    unfold scrB at h
    simp only [Bool.and_eq_true, decide_eq_true_eq] at h
    exact h.1
   have hrw := fun k l => @rule_word s hsc k l
   have HW := Lib.hid (fun w => split_any s 32 w hs)
   have hwl : splitL 32 (bl s) = wordsL s := by unfold wordsL; rw [if_neg hz]
   rw [hwl] at HW
   have hpl := fun (l : List UInt8) (hl : l ∈ wordsL s) => (show l.length ≤ 80 from word_le hs80 hl)
   have HNONE := Lib.hid (fun x (hx : x ∈ rulesL s) (h9 : x.what = 99) => inv_none (s := s) hx h9)
   have HALL := Lib.hid (fun (h : ∀ x ∈ rulesL s, x.what ≠ 99) => inv_some hsc h)
   have hlen := rulesL_len s
   have h81 := rules_81' hsc
   have hR : invW s = (wordsL s).reverse.map turnW := rfl
   obtain ⟨O, hO⟩ : ∃ O, invO s = O := ⟨_, rfl⟩
   rw [hO] at HNONE HALL ⊢
   obtain ⟨R, hRR⟩ : ∃ R, invW s = R := ⟨_, rfl⟩
   rw [hRR] at HALL hR
   obtain ⟨X, hX⟩ : ∃ X, rulesL s = X := ⟨_, rfl⟩
   rw [hX] at hrw hlen HNONE HALL h81
   obtain ⟨P, hP⟩ : ∃ P, wordsL s = P := ⟨_, rfl⟩
   rw [hP] at HW hrw hpl hlen hR
   obtain ⟨m, hm⟩ : ∃ m, P.length = m := ⟨_, rfl⟩
   rw [hm] at hlen HW
   have hm81 : m ≤ 81 := by omega
   have HM := Lib.hid hm
   have HRW := Lib.hid hrw
   have HPL := Lib.hid hpl
   have HXL := Lib.hid hlen
   have HRR := Lib.hid hR
   clear hsc hO hRR hX hP hm hrw hpl hlen hR h81 hz hwl
   go_enter Try.func24, Try.ntmps24
   go_wp2_with fail
   refine (HR.out _).mono ?_
   rintro e w1 ⟨rfl, hb1⟩
   go_wp2_with fail
   refine (HW.out _).mono ?_
   rintro e w2 ⟨A1, c1, rfl, ho1, hb2⟩
   have HO := Lib.hid ho1
   have HB := Lib.hid (ext_trans hb1 hb2)
   clear ho1 hb1 hb2
   go_wp2_with fail
   go_loopw [4, 17] (fun v i wr => ∃ (k cb : Nat) (B : Option Addr), k ≤ m ∧ i = .int .i64 k ∧ v = .slice B k cb ∧ Hid (wr.ownsRow w2.heap.size 9 1 (.slice B k cb) k (strsV ((P.take k).reverse.map turnW))) ∧ Hid (∀ i, i < k → ∀ x, X[i]? = some x → x.what ≠ 99) ∧ Hid (Below w2.heap.size w2 wr)) (fun _ i _ => m - (intOf i).toNat)
   case atStart => exact ⟨0, 0, none, Nat.zero_le _, rfl, rfl, Lib.hid (World.ownsRow_nil _ _ _ _), Lib.hid (fun i h => by omega), Lib.hid (ext_refl _)⟩
   case round =>
    obtain ⟨k, cb, B, hk, rfl, rfl, HV, HNO, HX⟩ := hrel
    by_cases hlt : k < m
    · obtain ⟨l, hl⟩ := list_split (l := P) (k := k) (by rw [HM.out]; exact hlt)
      obtain ⟨x0, hxo, hx0⟩ := HRW.out k l hl
      obtain ⟨b, o, rfl, hb, c0⟩ := strs_at (Reads.of_own (own_ext HO.out HX.out)) hl
      have hll : l.length ≤ 80 := HPL.out l (List.mem_of_getElem? hl)
      have e2 : (k : Int) < (m : Int) := by omega
      have k0 : (0 : Int) ≤ (k : Int) := by omega
      have HXO := Lib.hid hxo
      have HX0 := Lib.hid hx0
      have HPK := Lib.hid hl
      clear hl hxo hx0
      obtain ⟨V, hV⟩ : ∃ y : World, y = wr := ⟨_, rfl⟩
      subst hV
      have kc := Lib.run_convert_string_bytes (P := Try.prog) V 9 22 5 (str l) Try.underlying9 Try.underlying22 Try.underlying5
      have HT0 := Lib.hid (TbAt.made V 5 (str l))
      have HB0 := Lib.hid (tb_below V 5 (str l))
      obtain ⟨cap, hcap⟩ : ∃ c, grownCap V (str l).size 0 5 = c := ⟨_, rfl⟩
      obtain ⟨W, hW⟩ : ∃ y, Lib.bytesWorld V 5 (str l) = y := ⟨_, rfl⟩
      rw [hcap, hW] at kc
      rw [hW] at HT0 HB0
      rw [str_size] at kc HT0
      rw [bl_str] at HT0
      obtain ⟨L, hL⟩ : ∃ y, l.length = y := ⟨_, rfl⟩
      rw [hL] at kc HT0 hll
      obtain ⟨H, hH⟩ : ∃ y, V.heap.size = y := ⟨_, rfl⟩
      rw [hH] at kc HT0
      have h0 := mixT_zero l
      rw [← h0] at HT0
      have HLL := Lib.hid hL
      have HHL := Lib.hid (show V.heap.size ≤ H by omega)
      have HH := Lib.hid hH
      clear hcap hW h0 hL hH
      go_upto_region 10 with fail
      clear kc
      go_wp2_with fail
      go_loopw [25] (fun i ws => ∃ q : Nat, q ≤ L ∧ i = .int .i64 q ∧ Hid (TbAt ws H L (mixT l q)) ∧ Hid ((99 : UInt8) ∉ l.take q) ∧ Hid (Below V.heap.size V ws)) (fun i _ => L - (intOf i).toNat)
      case atStart => exact ⟨0, Nat.zero_le _, rfl, HT0, Lib.hid (by simp), HB0⟩
      case round =>
       clear HT0 HB0
       obtain ⟨q, hq, rfl, HT, HC, HBQ⟩ := hrel
       obtain ⟨ws, hws⟩ : ∃ y : World, y = wr := ⟨_, rfl⟩
       subst hws
       have hHl := HT.out.2.1
       by_cases hlt2 : q < L
       · have e3 : (q : Int) < (L : Int) := by omega
         have q0 : (0 : Int) ≤ (q : Int) := by omega
         obtain ⟨x, hx⟩ : ∃ x, l.getD q 0 = x := ⟨_, rfl⟩
         have HXX := Lib.hid (show (mixT l q).getD q 0 = x by rw [mixT_getD]; exact hx)
         have HMX := Lib.hid (mixT_set (l := l) (k := q) (x := x) (by rw [HLL.out]; exact hlt2) hx)
         have HXQ := Lib.hid (show l[q]? = some x by have hql : q < l.length := (by rw [HLL.out]; exact hlt2); rw [List.getElem?_eq_getElem hql]; rw [List.getD_eq_getElem?_getD, List.getElem?_eq_getElem hql] at hx; simpa using hx)
         obtain ⟨c0', f0⟩ := HT.out.2.2 q hlt2
         rw [HXX.out] at c0'
         clear hx c0
         have hcase : x = 99 ∨ x = 43 ∨ x = 45 ∨ x = 60 ∨ x = 62 ∨ (x ≠ 99 ∧ x ≠ 43 ∧ x ≠ 45 ∧ x ≠ 60 ∧ x ≠ 62) := by
          by_cases h0 : x = 99
          · exact .inl h0
          by_cases h1 : x = 43
          · exact .inr (.inl h1)
          by_cases h2 : x = 45
          · exact .inr (.inr (.inl h2))
          by_cases h3 : x = 60
          · exact .inr (.inr (.inr (.inl h3)))
          by_cases h4 : x = 62
          · exact .inr (.inr (.inr (.inr (.inl h4))))
          exact .inr (.inr (.inr (.inr (.inr ⟨h0, h1, h2, h3, h4⟩))))
         rcases hcase with rfl | rfl | rfl | rfl | rfl | ⟨h99, h43, h45, h60, h62⟩
         · have w99 : (((99 : UInt8).toNat : Int) == 99) = true := rfl
           have HN := Lib.hid (HNONE.out x0 (List.mem_of_getElem? HX0.out) (word_c HXO.out (List.mem_of_getElem? HXQ.out)))
           go_wp2
           go_ret2
           rw [HN.out]
           exact ⟨rfl, ext_trans HB.out (ext_trans HX.out HBQ.out)⟩
         · have w99 : (((43 : UInt8).toNat : Int) == 99) = false := rfl
           have w43 : (((43 : UInt8).toNat : Int) == 43) = true := rfl
           have w45 : (((43 : UInt8).toNat : Int) == 45) = false := rfl
           have w60 : (((43 : UInt8).toNat : Int) == 60) = false := rfl
           have w62 : (((43 : UInt8).toNat : Int) == 62) = false := rfl
           have hm2 := HMX.out
           rw [show turnC 43 = 45 from rfl] at hm2
           have HM2 := Lib.hid hm2
           have HC2 := Lib.hid (show (99 : UInt8) ∉ l.take (q + 1) from take_no HC.out HXQ.out (by decide))
           clear hm2
           have HT2 := Lib.hid (show TbAt (ws.setCell ⟨H, q, none⟩ (.int .u8 ((45 : UInt8).toNat : Int))) H L (mixT l (q + 1)) by rw [← HM2.out]; exact HT.out.set hlt2 45)
           go_wp2
           go_roundw
           case rel => exact ⟨q + 1, by omega, by go_num, HT2, HC2, Lib.hid (HBQ.out.setCell (p := ⟨H, q, none⟩) HHL.out _)⟩
           case measure => simp [intOf]; omega
         · have w99 : (((45 : UInt8).toNat : Int) == 99) = false := rfl
           have w43 : (((45 : UInt8).toNat : Int) == 43) = false := rfl
           have w45 : (((45 : UInt8).toNat : Int) == 45) = true := rfl
           have w60 : (((45 : UInt8).toNat : Int) == 60) = false := rfl
           have w62 : (((45 : UInt8).toNat : Int) == 62) = false := rfl
           have hm2 := HMX.out
           rw [show turnC 45 = 43 from rfl] at hm2
           have HM2 := Lib.hid hm2
           have HC2 := Lib.hid (show (99 : UInt8) ∉ l.take (q + 1) from take_no HC.out HXQ.out (by decide))
           clear hm2
           have HT2 := Lib.hid (show TbAt (ws.setCell ⟨H, q, none⟩ (.int .u8 ((43 : UInt8).toNat : Int))) H L (mixT l (q + 1)) by rw [← HM2.out]; exact HT.out.set hlt2 43)
           go_wp2
           go_roundw
           case rel => exact ⟨q + 1, by omega, by go_num, HT2, HC2, Lib.hid (HBQ.out.setCell (p := ⟨H, q, none⟩) HHL.out _)⟩
           case measure => simp [intOf]; omega
         · have w99 : (((60 : UInt8).toNat : Int) == 99) = false := rfl
           have w43 : (((60 : UInt8).toNat : Int) == 43) = false := rfl
           have w45 : (((60 : UInt8).toNat : Int) == 45) = false := rfl
           have w60 : (((60 : UInt8).toNat : Int) == 60) = true := rfl
           have w62 : (((60 : UInt8).toNat : Int) == 62) = false := rfl
           have hm2 := HMX.out
           rw [show turnC 60 = 62 from rfl] at hm2
           have HM2 := Lib.hid hm2
           have HC2 := Lib.hid (show (99 : UInt8) ∉ l.take (q + 1) from take_no HC.out HXQ.out (by decide))
           clear hm2
           have HT2 := Lib.hid (show TbAt (ws.setCell ⟨H, q, none⟩ (.int .u8 ((62 : UInt8).toNat : Int))) H L (mixT l (q + 1)) by rw [← HM2.out]; exact HT.out.set hlt2 62)
           go_wp2
           go_roundw
           case rel => exact ⟨q + 1, by omega, by go_num, HT2, HC2, Lib.hid (HBQ.out.setCell (p := ⟨H, q, none⟩) HHL.out _)⟩
           case measure => simp [intOf]; omega
         · have w99 : (((62 : UInt8).toNat : Int) == 99) = false := rfl
           have w43 : (((62 : UInt8).toNat : Int) == 43) = false := rfl
           have w45 : (((62 : UInt8).toNat : Int) == 45) = false := rfl
           have w60 : (((62 : UInt8).toNat : Int) == 60) = false := rfl
           have w62 : (((62 : UInt8).toNat : Int) == 62) = true := rfl
           have hm2 := HMX.out
           rw [show turnC 62 = 60 from rfl] at hm2
           have HM2 := Lib.hid hm2
           have HC2 := Lib.hid (show (99 : UInt8) ∉ l.take (q + 1) from take_no HC.out HXQ.out (by decide))
           clear hm2
           have HT2 := Lib.hid (show TbAt (ws.setCell ⟨H, q, none⟩ (.int .u8 ((60 : UInt8).toNat : Int))) H L (mixT l (q + 1)) by rw [← HM2.out]; exact HT.out.set hlt2 60)
           go_wp2
           go_roundw
           case rel => exact ⟨q + 1, by omega, by go_num, HT2, HC2, Lib.hid (HBQ.out.setCell (p := ⟨H, q, none⟩) HHL.out _)⟩
           case measure => simp [intOf]; omega
         · have n99 : (x.toNat : Int) ≠ 99 := fun h => h99 (UInt8.toNat.inj (show x.toNat = 99 by omega))
           have w99 : ((x.toNat : Int) == 99) = false := by simpa using n99
           have n43 : (x.toNat : Int) ≠ 43 := fun h => h43 (UInt8.toNat.inj (show x.toNat = 43 by omega))
           have w43 : ((x.toNat : Int) == 43) = false := by simpa using n43
           have n45 : (x.toNat : Int) ≠ 45 := fun h => h45 (UInt8.toNat.inj (show x.toNat = 45 by omega))
           have w45 : ((x.toNat : Int) == 45) = false := by simpa using n45
           have n60 : (x.toNat : Int) ≠ 60 := fun h => h60 (UInt8.toNat.inj (show x.toNat = 60 by omega))
           have w60 : ((x.toNat : Int) == 60) = false := by simpa using n60
           have n62 : (x.toNat : Int) ≠ 62 := fun h => h62 (UInt8.toNat.inj (show x.toNat = 62 by omega))
           have w62 : ((x.toNat : Int) == 62) = false := by simpa using n62
           have hm2 := HMX.out
           rw [show turnC x = x by unfold turnC; rw [if_neg h43, if_neg h45, if_neg h60, if_neg h62]] at hm2
           have HM2 := Lib.hid hm2
           have HC2 := Lib.hid (show (99 : UInt8) ∉ l.take (q + 1) from take_no HC.out HXQ.out h99)
           clear hm2 h43 h45 h60 h62 h99 n43 n45 n60 n62 n99
           have HT2 := Lib.hid (show TbAt ws H L (mixT l (q + 1)) by rw [← HM2.out, set_getD HXX.out]; exact HT.out)
           go_wp2
           go_roundw
           case rel => exact ⟨q + 1, by omega, by go_num, HT2, HC2, HBQ⟩
           case measure => simp [intOf]; omega
       · obtain rfl : q = L := by omega
         have HMM := Lib.hid (show mixT l q = turnW l by rw [← HLL.out]; exact mixT_all l)
         have kb := HT.out.back (dst := 9) Try.underlying22 Try.underlying5 Try.underlying9 cap
         rw [HMM.out] at kb
         have HCL := Lib.hid (show (99 : UInt8) ∉ l by have := HC.out; rwa [← HLL.out, List.take_length] at this)
         have HNO2 := Lib.hid (show ∀ i, i < k + 1 → ∀ x, X[i]? = some x → x.what ≠ 99 from fun i h1 y hy => by
          rcases (show i < k ∨ i = k by omega) with h | h
          · exact HNO.out i h y hy
          · subst h; rw [HX0.out] at hy; injection hy with hy; subst hy; exact word_c' HXO.out HCL.out)
         have HVQ := Lib.hid ((own_ext HV.out HBQ.out).alloc (.cells #[.string (str (turnW l))] 9))
         have HLT := Lib.hid (own_lit1 ws 9 (.string (str (turnW l))) (B := w2.heap.size) (H := ws.heap.size) rfl (Nat.le_trans HX.out.size HBQ.out.size))
         have HBA := Lib.hid (ext_alloc (ext_trans HX.out HBQ.out) (.cells #[.string (str (turnW l))] 9))
         have HSL := Lib.hid (show .string (str (turnW l)) :: strsV ((P.take k).reverse.map turnW) = strsV ((P.take (k + 1)).reverse.map turnW) by rw [List.take_add_one, HPK.out]; simp [strsV])
         have hm1 : 1 + k ≤ maxLen := by unfold maxLen; omega
         have hm2 : (1 + k) * 16 ≤ 140737488355328 := by omega
         clear c0
         go_wp2_with (at_builtin; refine wpList_appO rfl (.tmp 57) (.tmp 58) 66 rfl w2.heap.size 9 i0 _ 1 16 Try.underlying66 hi0 hz0 hz1 hz2 rfl (by decide) (.slice (some ⟨ws.heap.size, 0, none⟩) 1 1) 1 _ rfl HLT.out B k cb (strsV ((P.take k).reverse.map turnW)) rfl _ HVQ.out (strs_one _) hm1 hm2 (by have h0 := HBA.out.size; exact h0) ?_; intro A4 c4 w9 hown hgrow; have HGR := Lib.hid hgrow; have HOW := Lib.hid hown; clear hown hgrow)
         have HX9 := Lib.hid (below_grown' HLT.out (Nat.le_refl _) HBA.out HGR.out)
         have hk1 : 1 + k = k + 1 := by omega
         rw [hk1] at HOW ⊢
         clear kb hk1
         go_wp2
         go_roundw
         case rel => exact ⟨k + 1, c4, A4, by omega, by go_num, rfl, Lib.hid (by rw [← HSL.out]; exact HOW.out), HNO2, HX9⟩
         case measure => simp [intOf]; omega
    · obtain rfl : k = m := by omega
      have hO2 := HALL.out (fun x hx => by
       obtain ⟨i, hi⟩ := List.mem_iff_getElem?.1 hx
       have := (List.getElem?_eq_some_iff.1 hi).1
       exact HNO.out i (by have := HXL.out; omega) x hi)
      have hPm : P.take k = P := by rw [← HM.out, List.take_length]
      have hv := HV.out
      rw [hPm, ← HRR.out] at hv
      have HV2 := Lib.hid hv
      have hRk : R.length = k := by rw [HRR.out]; simp [HM.out]
      have HJ := Lib.hid (fun (w : World) h => jn_any B k cb ⟨#[32]⟩ (R.map str) w (by omega) (by decide) (by
       intro p hp
       obtain ⟨q, hq, rfl⟩ := List.mem_map.1 hp
       rw [str_size]
       rw [HRR.out] at hq
       obtain ⟨y, hy, rfl⟩ := List.mem_map.1 hq
       have := HPL.out y (List.mem_reverse.1 hy)
       simp [turnW]; omega) h)
      have hjv : jnTo ⟨#[32]⟩ (R.map str) k = str (jnL R) := by
       apply bl_inj
       rw [bl_jnTo (R.map str) k (by simp [hRk]), bl_str, List.take_of_length_le (by simp [hRk]), List.map_map]
       congr 1
       conv => rhs; rw [← List.map_id R]
       exact List.map_congr_left fun q _ => bl_str q
      rw [hjv] at HJ
      have hst : txsV (R.map str) = strsV R := by simp [txsV, strsV]
      have HO2 := Lib.hid hO2
      clear hO2 hPm hv hRk hjv
      go_wp2_with fail
      refine (HJ.out _ (by rw [hst]; exact Reads.of_own HV2.out)).mono ?_
      rintro e w3 ⟨rfl, hb3⟩
      have HBZ := Lib.hid (ext_trans HB.out (ext_trans HX.out hb3))
      clear hb3 hst
      go_wp2
      go_ret2
      rw [HO2.out]
      exact ⟨rfl, HBZ.out⟩

end Go.Proofs.Ytihljhikhplegaa
