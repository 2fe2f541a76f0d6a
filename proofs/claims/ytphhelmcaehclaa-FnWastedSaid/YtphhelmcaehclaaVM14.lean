/- MoveDistance: the program's. -/
import Derived.Test.YtphhelmcaehclaaVWsG
namespace Go.Proofs.Ytphhelmcaehclaa
open Go.RowKit
set_option linter.unusedVariables false
set_option linter.unusedSimpArgs false
set_option maxRecDepth 100000 in
set_option maxHeartbeats 4000000 in
theorem implMoveDistance_any (B : Option Addr) (k cb : Nat) (p : List R3) (D : Option Addr) (m cd : Nat) (q : List R3) (w : World) (hk : k ≤ 1048576) (hm : m ≤ 1048576) (hp : Reads w w.heap.size 3 B k (rowsV3 p)) (hq : Reads w w.heap.size 3 D m (rowsV3 q)) :
 Calls Try.prog 17 #[.slice B k cb, .slice D m cd] w (RetV (.tuple #[.int .i64 (mdV p q), .bool (rcdB p && rcdB q)]) w) := by
 have hkl := rows_len3 hp
 have hml := rows_len3 hq
 have HP := Lib.hid hp
 have HQ := Lib.hid hq
 clear hp hq
 cases hrp : rcdB p
 · rw [show mdV p q = 0 by unfold mdV; rw [hrp]; rfl, Bool.false_and]
   have HRP := Lib.hid hrp
   clear hrp
   go_enter Try.func17, Try.ntmps17
   go_wp2_with fail
   refine (areRecorded_any B k cb p _ hk (rdx HP.out (ext_refl w))).mono ?_
   rw [HRP.out]
   rintro e w1 ⟨rfl, hb⟩
   have s1 : w.heap.size ≤ w1.heap.size := (by have := hb.size; (try simp at this); omega)
   have b1 := Lib.hid (ext_trans (ext_refl w) hb)
   have t1 : w.heap.size ≤ w1.heap.size := b1.out.size
   clear hb
   go_wp2
   go_ret2
   exact ⟨rfl, b1.out⟩
 cases hrq : rcdB q
 · rw [show mdV p q = 0 by unfold mdV; rw [hrp, hrq]; rfl, Bool.true_and]
   have HRP := Lib.hid hrp
   have HRQ := Lib.hid hrq
   clear hrp hrq
   go_enter Try.func17, Try.ntmps17
   go_wp2_with fail
   refine (areRecorded_any B k cb p _ hk (rdx HP.out (ext_refl w))).mono ?_
   rw [HRP.out]
   rintro e w1 ⟨rfl, hb⟩
   have s1 : w.heap.size ≤ w1.heap.size := (by have := hb.size; (try simp at this); omega)
   have b1 := Lib.hid (ext_trans (ext_refl w) hb)
   have t1 : w.heap.size ≤ w1.heap.size := b1.out.size
   clear hb
   go_wp2_with fail
   refine (areRecorded_any D m cd q _ hm (rdx HQ.out b1.out)).mono ?_
   rw [HRQ.out]
   rintro e w2 ⟨rfl, hb⟩
   have s2 : w1.heap.size ≤ w2.heap.size := (by have := hb.size; (try simp at this); omega)
   have b2 := Lib.hid (ext_trans b1.out hb)
   have t2 : w.heap.size ≤ w2.heap.size := b2.out.size
   clear hb
   go_wp2
   go_ret2
   exact ⟨rfl, b2.out⟩
 · rw [show mdV p q = mE p q k m by unfold mdV; rw [hrp, hrq, hkl, hml]; rfl, Bool.true_and]
   have hk12 := (rcd_parts hrp).1
   have hm12 := (rcd_parts hrq).1
   rw [hkl] at hk12
   rw [hml] at hm12
   have HMD := Lib.hid (fun (w : World) h h' => moveDistance_any B k cb p D m cd q w hk12 hm12 h h')
   have HRP := Lib.hid hrp
   have HRQ := Lib.hid hrq
   obtain ⟨Z, hZ⟩ : ∃ o9, mE p q k m = o9 := ⟨_, rfl⟩
   rw [hZ] at HMD ⊢
   clear hrp hrq hZ
   go_enter Try.func17, Try.ntmps17
   go_wp2_with fail
   refine (areRecorded_any B k cb p _ hk (rdx HP.out (ext_refl w))).mono ?_
   rw [HRP.out]
   rintro e w1 ⟨rfl, hb⟩
   have s1 : w.heap.size ≤ w1.heap.size := (by have := hb.size; (try simp at this); omega)
   have b1 := Lib.hid (ext_trans (ext_refl w) hb)
   have t1 : w.heap.size ≤ w1.heap.size := b1.out.size
   clear hb
   go_wp2_with fail
   refine (areRecorded_any D m cd q _ hm (rdx HQ.out b1.out)).mono ?_
   rw [HRQ.out]
   rintro e w2 ⟨rfl, hb⟩
   have s2 : w1.heap.size ≤ w2.heap.size := (by have := hb.size; (try simp at this); omega)
   have b2 := Lib.hid (ext_trans b1.out hb)
   have t2 : w.heap.size ≤ w2.heap.size := b2.out.size
   clear hb
   go_wp2_with fail
   refine (HMD.out _ (rdx HP.out b2.out) (rdx HQ.out b2.out)).mono ?_
   rintro e w3 ⟨rfl, hb⟩
   have s3 : w2.heap.size ≤ w3.heap.size := (by have := hb.size; (try simp at this); omega)
   have b3 := Lib.hid (ext_trans b2.out hb)
   have t3 : w.heap.size ≤ w3.heap.size := b3.out.size
   clear hb
   go_wp2
   go_ret2
   exact ⟨rfl, b3.out⟩
end Go.Proofs.Ytphhelmcaehclaa
