/- Executing a command, plainly; the reference's l28Run whole, l28Own. -/
import Derived.Test.YtkcbgiegoadkbaaGreatVSpR
import Derived.Test.YtkcbgiegoadkbaaGreatVM3
import Derived.Test.YtkcbgiegoadkbaaGreatVLgA
namespace Go.Proofs.YtkcbgiegoadkbaaGreat
open Go.RowKit
set_option linter.unusedVariables false
set_option linter.unusedSimpArgs false
theorem splitL_single {b : UInt8} {l x : List UInt8} (h : splitL b l = [x]) : x = l := by
 have h1 : b ∉ l := (splitL_one b l).1 (by rw [h]; rfl)
 have h2 := splitL_head b l
 rw [h] at h2
 simp at h2
 rw [h2]
 have : ∀ (m : List UInt8), b ∉ m → m.takeWhile (· != b) = m := by
  intro m
  induction m with
  | nil => intro _; rfl
  | cons c m ih =>
    intro hm
    have hc : c ≠ b := fun e => hm (by rw [e]; simp)
    have hm' : b ∉ m := fun e => hm (List.mem_cons_of_mem _ e)
    simp [List.takeWhile_cons, hc, ih hm']
 exact this l h1
theorem l28Run_any (day pa le : Int) (d p : ByteArray) (z : Int) (A : Option Addr) (n c : Nat) (l : List R5) (line : ByteArray) (w : World) (hnc : n ≤ c) (hA : SlOk A n c) (h : Reads w w.heap.size 5 A n (rowsV l)) (hs : schB day l pa le = true) (hline : line.size ≤ 16000) :
 Calls Tryz.prog 43 #[conV day A n c pa le d p z, .string line] w (RetC A c l (day, l, pa, le) d p z (repO (day, l, pa, le) line) w) := by
 have hn : n ≤ 8 := by have := schB_len hs; have := rows_len h; omega
 obtain ⟨x0, hx0⟩ : ∃ x0, (splitL 32 (bl line))[0]? = some x0 := ⟨_, splitL_head 32 (bl line)⟩
 have hhd : (splitL 32 (bl line)).headD [] = x0 := by
  rcases hp : splitL 32 (bl line) with _ | ⟨y, t⟩
  · rw [hp] at hx0; cases hx0
  · rw [hp] at hx0; simpa using hx0
 unfold repO
 rw [hhd]
 rcases hvs : numsO ((splitL 32 (bl line)).drop 1) with _ | vs
 · exact l28Run_bad day pa le d p z A n c l w hn hnc hA h hs line hline _ x0 _ rfl hx0 rfl hvs
 rcases vs with _ | ⟨i1, _ | ⟨i2, _ | ⟨i3, vs⟩⟩⟩
 · show Calls Tryz.prog 43 #[conV day A n c pa le d p z, .string line] w (RetC A c l (day, l, pa, le) d p z (rep0 (day, l, pa, le) (str x0)) w)
   have hone : splitL 32 (bl line) = [x0] := by
    have h1 := (numsO_some _ _ hvs).1
    rcases hp : splitL 32 (bl line) with _ | ⟨y, t⟩
    · rw [hp] at hx0; cases hx0
    · rw [hp] at hx0 h1
      simp at hx0 h1
      rw [hx0, List.eq_nil_of_length_eq_zero h1.symm]
   have hl : str x0 = line := by rw [splitL_single hone, str_bl]
   rw [hl]
   exact l28Run_0 day pa le d p z A n c l w hn hnc hA h hs line hline _ x0 _ [] rfl hx0 rfl hvs rfl
 · exact l28Run_1 day pa le d p z A n c l w hn hnc hA h hs line hline _ x0 _ [i1] rfl hx0 rfl hvs i1 rfl
 · exact l28Run_2 day pa le d p z A n c l w hn hnc hA h hs line hline _ x0 _ [i1, i2] rfl hx0 rfl hvs i1 i2 rfl
 · exact l28Run_3 day pa le d p z A n c l w hn hnc hA h hs line hline _ x0 _ (i1 :: i2 :: i3 :: vs) rfl hx0 rfl hvs (by simp)
def cutT (r : ByteArray) : ByteArray := if 200 < r.size then ⟨#[108, 111, 110, 103]⟩ else r
theorem cutT_size (r : ByteArray) : (cutT r).size ≤ 200 := by
 unfold cutT
 split
 · decide
 · omega
/-- is the command executed? -/
def exGo (q : Sch4) (d p : ByteArray) (z : Int) (line : ByteArray) : Bool := conB q.1 q.2.1 q.2.2.1 q.2.2.2 d p z && recB line ⟨#[]⟩ && decide (z < 60)
def exT (q : Sch4) (d p : ByteArray) (z : Int) (line : ByteArray) : ByteArray :=
 if conB q.1 q.2.1 q.2.2.1 q.2.2.2 d p z = false then ⟨#[110, 111]⟩ else if recB line ⟨#[]⟩ = false then ⟨#[98, 97, 100]⟩ else if 60 ≤ z then ⟨#[102, 117, 108, 108]⟩ else cutT (afT (repO q line))
def exQ (q : Sch4) (d p : ByteArray) (z : Int) (line : ByteArray) : Sch4 := if exGo q d p z line = true then afQ q (repO q line) else q
def exP (q : Sch4) (d p : ByteArray) (z : Int) (line : ByteArray) : ByteArray := if exGo q d p z line = true then appP d p z line (exT q d p z line) else p
def exZ (q : Sch4) (d p : ByteArray) (z : Int) (line : ByteArray) : Int := if exGo q d p z line = true then appZ d p z line (exT q d p z line) else z
/-- a console of the call's own comes back, and a reply -/
def RetEx (q : Sch4) (d p : ByteArray) (z : Int) (tx : ByteArray) (w : World) (e : Ending) (w' : World) : Prop :=
 ∃ A c, e = .returned (.tuple #[conV q.1 A q.2.1.length c q.2.2.1 q.2.2.2 d p z, .string tx]) ∧ w'.ownsRow w.heap.size 111 5 (.slice A q.2.1.length c) q.2.1.length (rowsV q.2.1) ∧ Below w.heap.size w w'
/-- the four ways through ExecuteCommand -/
theorem ex_cases (q : Sch4) (d p : ByteArray) (z : Int) (line : ByteArray) (K : Sch4 → ByteArray → Int → ByteArray → Prop)
 (h1 : conB q.1 q.2.1 q.2.2.1 q.2.2.2 d p z = false → K q p z ⟨#[110, 111]⟩)
 (h2 : conB q.1 q.2.1 q.2.2.1 q.2.2.2 d p z = true → recB line ⟨#[]⟩ = false → K q p z ⟨#[98, 97, 100]⟩)
 (h3 : conB q.1 q.2.1 q.2.2.1 q.2.2.2 d p z = true → recB line ⟨#[]⟩ = true → 60 ≤ z → K q p z ⟨#[102, 117, 108, 108]⟩)
 (h4 : conB q.1 q.2.1 q.2.2.1 q.2.2.2 d p z = true → recB line ⟨#[]⟩ = true → z < 60 → K (afQ q (repO q line)) (appP d p z line (cutT (afT (repO q line)))) (appZ d p z line (cutT (afT (repO q line)))) (cutT (afT (repO q line)))) :
 K (exQ q d p z line) (exP q d p z line) (exZ q d p z line) (exT q d p z line) := by
 unfold exP exZ exQ exT exGo
 rcases hc : conB q.1 q.2.1 q.2.2.1 q.2.2.2 d p z with _ | _
 · simpa using h1 hc
 rcases hr : recB line ⟨#[]⟩ with _ | _
 · simpa using h2 hc hr
 by_cases hz : 60 ≤ z
 · have : ¬ z < 60 := by omega
   simpa [hz, this] using h3 hc hr hz
 · have hz' : z < 60 := by omega
   simpa [hz, hz'] using h4 hc hr hz'
theorem logB_sixty {d p : ByteArray} {z : Int} (h : logB d p z = true) : 0 ≤ z ∧ z ≤ 60 := by
 have hl := lrL_len d p z
 unfold lrL at hl
 rw [if_pos h] at hl
 simp only [logB, Bool.and_eq_true, decide_eq_true_eq] at h
 omega
def OwnC (day pa le : Int) (d p : ByteArray) (z : Int) (n : Nat) (l : List R5) (w : World) (e : Ending) (w' : World) : Prop :=
 ∃ A c, e = .returned (conV day A n c pa le d p z) ∧ w'.ownsRow w.heap.size 111 5 (.slice A n c) n (rowsV l) ∧ Below w.heap.size w w'
set_option maxRecDepth 100000 in
set_option maxHeartbeats 4000000 in
theorem l28Own_any (day pa le : Int) (d p : ByteArray) (z : Int) (A : Option Addr) (n c : Nat) (l : List R5) (w : World) (hn : n ≤ 1048576) (hA : SlOk A n c) (h : Reads w w.heap.size 5 A n (rowsV l)) :
 Calls Tryz.prog 40 #[conV day A n c pa le d p z] w (OwnC day pa le d p z n l w) := by
 have HO := Lib.hid (fun (w : World) h => l25Own_any day pa le A n c l w hn hA h)
 have H := Lib.hid h
 clear h
 obtain ⟨w1, hw1⟩ : ∃ w1, w1 = (w.alloc (.cells #[.int .i64 day, .slice A n c, .int .i64 pa, .int .i64 le, .string d, .string p, .int .i64 z] 34)).alloc (.cells #[.int .i64 0, .slice none 0 0, .int .i64 0, .int .i64 0, .string ⟨#[]⟩, .string ⟨#[]⟩, .int .i64 0] 34) := ⟨_, rfl⟩
 have hb1 : Below ((w.alloc (.cells #[.int .i64 day, .slice A n c, .int .i64 pa, .int .i64 le, .string d, .string p, .int .i64 z] 34)).alloc (.cells #[.int .i64 0, .slice none 0 0, .int .i64 0, .int .i64 0, .string ⟨#[]⟩, .string ⟨#[]⟩, .int .i64 0] 34)).heap.size ((w.alloc (.cells #[.int .i64 day, .slice A n c, .int .i64 pa, .int .i64 le, .string d, .string p, .int .i64 z] 34)).alloc (.cells #[.int .i64 0, .slice none 0 0, .int .i64 0, .int .i64 0, .string ⟨#[]⟩, .string ⟨#[]⟩, .int .i64 0] 34)) w1 := by rw [hw1]; exact ext_refl _
 have HW1 := Lib.hid hw1
 clear hw1
 have BX : Hid (Blk w1 w.heap.size 34 #[.int .i64 day, .slice A n c, .int .i64 pa, .int .i64 le, .string d, .string p, .int .i64 z]) := Lib.hid ((((Blk.new w _ _).ext (ext_alloc (ext_refl _) _))).ext hb1)
 have BR : Hid (Blk w1 (w.heap.size + 1) 34 #[.int .i64 0, .slice none 0 0, .int .i64 0, .int .i64 0, .string ⟨#[]⟩, .string ⟨#[]⟩, .int .i64 0]) := Lib.hid (by
  have := (Blk.new (w.alloc (.cells #[.int .i64 day, .slice A n c, .int .i64 pa, .int .i64 le, .string d, .string p, .int .i64 z] 34)) #[.int .i64 0, .slice none 0 0, .int .i64 0, .int .i64 0, .string ⟨#[]⟩, .string ⟨#[]⟩, .int .i64 0] 34).ext hb1
  simpa using this)
 have b1 := Lib.hid (ext_trans (ext_alloc (ext_alloc (ext_refl w) _) _) hb1)
 have z0 : w.heap.size + 1 < w1.heap.size := by (have := hb1.size; simp at this; omega)
 have z1 : w.heap.size < w1.heap.size := by omega
 clear hb1
 obtain ⟨x0, x1, x2, x3, x4, x5, x6⟩ := BX.out.q7
 obtain ⟨r0, r1, r2, r3, r4, r5, r6⟩ := BR.out.q7
 obtain ⟨fr0, fr1, fr2, fr3, fr4, fr5, fr6⟩ := BR.out.z7
 go_enter Tryz.func40, Tryz.ntmps40
 go_wp2_with fail
 rw [← HW1.out]
 go_region_held3 (fun w' => w'.cell? ⟨w.heap.size, 0, none⟩ = some (.int .i64 day) ∧ w'.cell? ⟨w.heap.size, 1, none⟩ = some (.slice A n c) ∧ w'.cell? ⟨w.heap.size, 2, none⟩ = some (.int .i64 pa) ∧ w'.cell? ⟨w.heap.size, 3, none⟩ = some (.int .i64 le) ∧ w'.cell? ⟨w.heap.size, 4, none⟩ = some (.string d) ∧ w'.cell? ⟨w.heap.size, 5, none⟩ = some (.string p) ∧ w'.cell? ⟨w.heap.size, 6, none⟩ = some (.int .i64 z)) (first | (go_split_ands; ((repeat' refine And.intro ?_ ?_) <;> with_reducible (repeat (first | assumption | refine cell_drew ?_ | refine cell_old ?_ _ | refine ext_cell hb8 ?_ | refine cell_set_far (by first | (show w.heap.size + 1 ≠ w.heap.size; omega)) ?_))))) (first | (go_at_call 69; refine (HO.out _ (by refine Reads.more (B := w.heap.size) (Reads.ext H.out (by repeat (first | (with_reducible exact b1.out) | (with_reducible refine ext_drew ?_) | (with_reducible refine ext_set ?_ (by show w.heap.size ≤ w.heap.size + 1; omega) _))) (Nat.le_refl _)) (by (try simp); omega))).mono ?_; rintro e w8 ⟨A8, c8, rfl, ho8, hb8⟩; have O8 := Lib.hid ho8; clear ho8; have R8x := Lib.hid (BR.out.ext (ext_trans (ext_drew (ext_refl _)) hb8)); have HB8 := Lib.hid hb8; have zs8 := hb8.size; have zR8 : w.heap.size + 1 < w8.heap.size := (by (try simp at zs8); omega); (try (have R8 := (BR).out.ext (ext_trans (ext_drew (ext_refl _)) hb8); obtain ⟨z80, z81, z82, z83, z84, z85, z86⟩ := R8.q7; obtain ⟨fz80, fz81, fz82, fz83, fz84, fz85, fz86⟩ := R8.z7; clear R8)); (try (have R8 := (BR).out.ext (ext_trans (ext_alloc (ext_drew (ext_refl _)) _) hb8); obtain ⟨z80, z81, z82, z83, z84, z85, z86⟩ := R8.q7; obtain ⟨fz80, fz81, fz82, fz83, fz84, fz85, fz86⟩ := R8.z7; clear R8)); (try (have R8 := (BR).out.ext (ext_trans (ext_drew (ext_alloc (ext_refl _) _)) hb8); obtain ⟨z80, z81, z82, z83, z84, z85, z86⟩ := R8.q7; obtain ⟨fz80, fz81, fz82, fz83, fz84, fz85, fz86⟩ := R8.z7; clear R8))))
 go_wp2
 refine bodyPost_ret (v := conV day A8 n c8 pa le d p z) (by simp [results, Tryz.results40, go_sem, *]) rfl ?_
 have hne := own_nb O8.out R8x.out (by decide)
 refine ⟨A8, c8, rfl, ?_, ?_⟩
 · iterate 7 refine own_set_nb ?_ hne _
   exact own_base O8.out b1.out.size
 · iterate 7 refine ext_set ?_ (by show w.heap.size ≤ w.heap.size + 1; omega) _
   exact ext_trans (ext_drew b1.out) HB8.out
end Go.Proofs.YtkcbgiegoadkbaaGreat
