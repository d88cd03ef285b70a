/- Contracts of the small functions of package sched. -/
import Derived.Test.YthfghlenabionaaRows
import Derived.WalkKit
import Derived.Lib.Hide
import Derived.WalkLawsBesides
import Derived.WalkSpells
import Derived.OneCell
import Derived.Deep.LoopGhost
import Derived.Deep.QuietTactic
import Derived.BigQuiet
import Derived.StillTailTactics
set_option linter.unusedVariables false
set_option linter.unusedSimpArgs false
namespace Go.Proofs.Ythfghlenabionaa
open Go.RowKit

/-- a job's block -/
def jobCells (num tries : Int) (nd : Value) (done : Bool) (a b u : Int) : Array Value :=
  #[.int .i64 num, .int .i64 tries, nd, .bool done, .int .i64 a, .int .i64 b, .int .i64 u]

theorem job_cells {w : World} {p : Nat} {num tries : Int} {nd : Value} {done : Bool} {a b u : Int} (h : w.heap[p]? = some (.cells (jobCells num tries nd done a b u) 54 (0, 0))) :
    w.cell? ⟨p, 0, none⟩ = some (.int .i64 num) ∧ w.cell? ⟨p, 1, none⟩ = some (.int .i64 tries) ∧ w.cell? ⟨p, 2, none⟩ = some nd ∧ w.cell? ⟨p, 3, none⟩ = some (.bool done) ∧
    w.cell? ⟨p, 4, none⟩ = some (.int .i64 a) ∧ w.cell? ⟨p, 5, none⟩ = some (.int .i64 b) ∧ w.cell? ⟨p, 6, none⟩ = some (.int .i64 u) := by
  simp [World.cell?, h, jobCells]

def schedCells (jv : Value) (wk ls ms now : Int) : Array Value := #[jv, .int .i64 wk, .int .i64 ls, .int .i64 ms, .int .i64 now]
theorem sched_cells {w : World} {p : Nat} {jv : Value} {wk ls ms now : Int} (h : w.heap[p]? = some (.cells (schedCells jv wk ls ms now) 51 (0, 0))) :
    w.cell? ⟨p, 0, none⟩ = some jv ∧ w.cell? ⟨p, 1, none⟩ = some (.int .i64 wk) ∧ w.cell? ⟨p, 2, none⟩ = some (.int .i64 ls) ∧ w.cell? ⟨p, 3, none⟩ = some (.int .i64 ms) ∧
    w.cell? ⟨p, 4, none⟩ = some (.int .i64 now) := by
  simp [World.cell?, h, schedCells]
theorem block_free {w : World} {p : Nat} {c : Array Value} {t : TypeId} (h : w.heap[p]? = some (.cells c t (0, 0))) (o : Nat) : w.frozen? ⟨p, o, none⟩ = false := by
  simp [World.frozen?, h]

def runsB (done : Bool) (tries u now : Int) : Bool := !done && (decide (0 < tries) && decide (now ≤ u))

theorem ret_bool {a b : Bool} (h : a = b) : Ending.returned (.bool a) = .returned (.bool b) := by rw [h]
theorem ret_int {k : IntKind} {a b : Int} (h : a = b) : Ending.returned (.int k a) = .returned (.int k b) := by rw [h]

set_option maxHeartbeats 400000 in
theorem runs_any (p : Nat) (num tries : Int) (nd : Value) (done : Bool) (a b u now : Int) (w : World) (h : w.heap[p]? = some (.cells (jobCells num tries nd done a b u) 54 (0, 0))) :
    Calls Try.prog 23 #[.pointer (some ⟨p, 0, none⟩), .int .i64 now] w fun e w' => e = .returned (.bool (runsB done tries u now)) ∧ w = w' := by
  obtain ⟨h0, h1, h2, h3, h4, h5, h6⟩ := job_cells h
  clear h h0 h2 h4 h5
  cases done
  · by_cases ht : 0 < tries
    · go_enter Try.func23, Try.ntmps23
      go_wp2
      go_ret
      exact ⟨ret_bool (by simp [runsB, ht]), rfl⟩
    · go_enter Try.func23, Try.ntmps23
      go_wp2
      go_ret
      exact ⟨ret_bool (by simp [runsB]; omega), rfl⟩
  · go_enter Try.func23, Try.ntmps23
    go_wp2
    go_ret
    exact ⟨ret_bool (by simp [runsB]), rfl⟩

/-- open's own predicate: a need that is not done -/
theorem undone_any (p : Nat) (d : Bool) (w : World) (h : w.cell? ⟨p, 3, none⟩ = some (.bool d)) :
    Calls Try.prog 27 #[.pointer (some ⟨p, 0, none⟩)] w fun e w' => e = .returned (.bool (!d)) ∧ w = w' := by
  go_enter Try.func27, Try.ntmps27
  go_wp2
  go_ret
  exact ⟨rfl, rfl⟩

theorem left1_any (p : Nat) (d : Bool) (w : World) (h : w.cell? ⟨p, 3, none⟩ = some (.bool d)) :
    Calls Try.prog 20 #[.pointer (some ⟨p, 0, none⟩)] w fun e w' => e = .returned (.bool (!d)) ∧ w = w' := by
  go_enter Try.func20, Try.ntmps20
  go_wp2
  go_ret
  exact ⟨rfl, rfl⟩

theorem left2_any (p : Nat) (n : Int) (w : World) (h : w.cell? ⟨p, 0, none⟩ = some (.int .i64 n)) :
    Calls Try.prog 21 #[.pointer (some ⟨p, 0, none⟩)] w fun e w' => e = .returned (.int .i64 n) ∧ w = w' := by
  go_enter Try.func21, Try.ntmps21
  go_wp2
  go_ret
  exact ⟨rfl, rfl⟩

theorem running1_any (p nb : Nat) (num tries : Int) (nd : Value) (done : Bool) (a b u now : Int) (w : World) (h : w.heap[p]? = some (.cells (jobCells num tries nd done a b u) 54 (0, 0)))
    (hn : w.cell? ⟨nb, 0, none⟩ = some (.int .i64 now)) :
    Calls Try.prog 22 #[.pointer (some ⟨p, 0, none⟩), .pointer (some ⟨nb, 0, none⟩)] w fun e w' => e = .returned (.bool (runsB done tries u now)) ∧ w = w' := by
  have hc := runs_any p num tries nd done a b u now w h
  have HC := Lib.hid hc
  clear hc h
  go_enter Try.func22, Try.ntmps22
  go_wp2_with (go_at_call 23; refine HC.out.mono ?_; rintro e w' ⟨rfl, rfl⟩)
  go_ret
  exact ⟨rfl, rfl⟩

theorem running2_any (p : Nat) (num tries : Int) (nd : Value) (done : Bool) (a b u : Int) (w : World) (h : w.heap[p]? = some (.cells (jobCells num tries nd done a b u) 54 (0, 0))) :
    Calls Try.prog 24 #[.pointer (some ⟨p, 0, none⟩)] w fun e w' => e = .returned (.agg #[.int .i64 a, .int .i64 b, .int .i64 u]) ∧ Below w.heap.size w w' := by
  obtain ⟨h0, h1, h2, h3, h4, h5, h6⟩ := job_cells h
  have hlt : p < w.heap.size := lt_of_block h
  clear h h0 h2 h1 h3
  go_enter Try.func24, Try.ntmps24
  go_wp2
  exact bodyPost_ret (v := .agg #[.int .i64 a, .int .i64 b, .int .i64 u]) (by simp [results, Try.results24, go_sem]) rfl ⟨rfl, (Below.refl _ _).alloc (Nat.le_refl _) _⟩

/-! long -/
def longL (ms : Int) : Nat → Int → Int
  | 0, l => l
  | k + 1, l => if l < ms then longL ms k (2 * l) else l
def longV (ls ms : Int) (tries : Nat) : Int := min (longL ms tries ls) ms

theorem longL_ge (ms : Int) (k : Nat) (x : Int) (h : ms ≤ x) : longL ms k x = x := by
  cases k with
  | zero => rfl
  | succ k => simp [longL]; omega
theorem longL_step (ms : Int) (k : Nat) (x : Int) (h0 : 0 < k) (h : x < ms) : longL ms k x = longL ms (k - 1) (2 * x) := by
  obtain ⟨j, rfl⟩ : ∃ j, k = j + 1 := ⟨k - 1, by omega⟩
  simp [longL, h]

set_option maxHeartbeats 400000 in
theorem long_any (sb : Nat) (jv : Value) (wk ls ms now : Int) (t : Nat) (w : World) (h : w.heap[sb]? = some (.cells (schedCells jv wk ls ms now) 51 (0, 0)))
    (h1 : 1 ≤ ls) (h2 : ls ≤ ms) (h3 : ms ≤ 1073741824) (ht : t ≤ 1000000000000) :
    Calls Try.prog 28 #[.pointer (some ⟨sb, 0, none⟩), .int .i64 (t : Int)] w fun e w' => e = .returned (.int .i64 (longV ls ms t)) ∧ w = w' := by
  obtain ⟨c0, c1, c2, c3, c4⟩ := sched_cells h
  clear h c0 c1 c4
  go_enter Try.func28, Try.ntmps28
  go_wp2
  go_loop [1, 5] (fun t' l => ∃ k : Nat, ∃ x : Int, t' = .int .i64 k ∧ l = .int .i64 x ∧ 1 ≤ x ∧ x ≤ 2147483648 ∧ k ≤ t ∧ longL ms k x = longL ms t ls) (fun t' _ => (intOf t').toNat)
  case atStart => exact ⟨t, ls, rfl, rfl, by omega, by omega, by omega, rfl⟩
  case round =>
    obtain ⟨k, x, rfl, rfl, hx1, hx2, hk, hl⟩ := hrel
    have HL := Lib.hid hl
    clear hl
    by_cases hk0 : 0 < k
    · by_cases hxm : x < ms
      · go_wp2
        go_round
        case rel => 
          refine ⟨k - 1, 2 * x, by go_num, by go_num, by omega, by omega, by omega, ?_⟩
          rw [← HL.out, ← longL_step ms k x hk0 hxm]
        case measure => simp [intOf]; omega
      · go_wp2
        all_goals go_ret
        all_goals (refine ⟨ret_int ?_, rfl⟩; unfold longV; rw [← HL.out, longL_ge ms k x (by omega)]; omega)
    · obtain rfl : k = 0 := by omega
      go_wp2
      all_goals go_ret
      all_goals (refine ⟨ret_int ?_, rfl⟩; unfold longV; rw [← HL.out]; simp only [longL]; omega)

theorem longV_bd (ls ms : Int) (t : Nat) (h1 : 1 ≤ ls) (h2 : ls ≤ ms) : 1 ≤ longV ls ms t ∧ longV ls ms t ≤ ms := by
  have h : ∀ (k : Nat) (x : Int), 1 ≤ x → 1 ≤ longL ms k x := by
    intro k
    induction k with
    | zero => intro x hx; exact hx
    | succ k ih => intro x hx; simp only [longL]; split; exact ih _ (by omega); exact hx
  have := h t ls h1
  unfold longV; omega

/-! deal -/
theorem gb_set {w wa : World} {p q : Nat} (h : w.grownBy wa (some p)) (hq : q = p ∨ w.heap.size ≤ q) (o : Nat) (v : Value) : w.grownBy (wa.setCell ⟨q, o, none⟩ v) (some p) :=
  ⟨h.os, h.tape, h.output, by simpa [World.setCell] using h.size, fun k hk hkp => by
    have hne : k ≠ q := by
      rcases hq with rfl | hq
      · exact fun e => hkp (by rw [e])
      · omega
    rw [Below.heap_setCell _ _ _ _ hne]; exact h.block k hk hkp⟩
theorem still_tail {P : Program} {id : Nat} {Q : Exit → Act → World → Prop} {a : Act} {w : World} {l : List Oper} (n : Nat) (hm : P.follows .mixedOrders = true) (hB : Region.lexTailB .any l.toArray n = true)
    (wd : World) (hwd : wd = w.drew)
    (h : wpStill P l.toArray wd (fun a' => wpList P l.toArray Q (l.drop n) a' wd) (l.take n) a) : (Code.region id l.toArray true).wp P Q a w := by
  subst hwd
  exact wp_region_still_tail n hm hB h

set_option maxHeartbeats 800000 in
theorem deal_any (sb p : Nat) (jv : Value) (wk ls ms now : Int) (num t : Nat) (nd : Value) (done : Bool) (a b u : Int) (w : World)
    (hs : w.heap[sb]? = some (.cells (schedCells jv wk ls ms now) 51 (0, 0))) (hj : w.heap[p]? = some (.cells (jobCells num t nd done a b u) 54 (0, 0)))
    (h1 : 1 ≤ ls) (h2 : ls ≤ ms) (h3 : ms ≤ 1073741824) (ht : t ≤ 1000000000000) (hn : num ≤ 1000000000000) (hw1 : 1 ≤ wk) (hw2 : wk ≤ 64) (hn1 : 0 ≤ now) (hn2 : now ≤ 1073741824) :
    Calls Try.prog 18 #[.pointer (some ⟨sb, 0, none⟩), .pointer (some ⟨p, 0, none⟩)] w fun e w' =>
      e = .returned (.agg #[.int .i64 num, .int .i64 ((num + t : Int) % wk), .int .i64 (now + longV ls ms t)]) ∧
      w'.heap[p]? = some (.cells (jobCells num (t + 1) nd done num ((num + t : Int) % wk) (now + longV ls ms t)) 54 (0, 0)) ∧ w.grownBy w' (some p) := by
  obtain ⟨wa, hwa⟩ : ∃ wa : World, wa = (w.alloc (.cells #[.int .i64 0, .int .i64 0, .int .i64 0] 35)).drew := ⟨_, rfl⟩
  have hs' : wa.heap[sb]? = some (.cells (schedCells jv wk ls ms now) 51 (0, 0)) := by rw [hwa]; exact (Below.heap_alloc _ _ _ (lt_of_block hs)).trans hs
  have hj' : wa.heap[p]? = some (.cells (jobCells num t nd done a b u) 54 (0, 0)) := by rw [hwa]; exact (Below.heap_alloc _ _ _ (lt_of_block hj)).trans hj
  have hr' : wa.heap[w.heap.size]? = some (.cells #[.int .i64 0, .int .i64 0, .int .i64 0] 35 (0, 0)) := by rw [hwa]; exact heap_alloc_new _ _
  have hgr : w.grownBy wa (some p) := by rw [hwa]; exact ⟨rfl, rfl, rfl, by simp, fun k hk _ => heap_alloc_old w _ hk⟩
  have hl := long_any sb jv wk ls ms now t wa hs' h1 h2 h3 ht
  have hl' : Calls Try.prog 28 #[.pointer (some ⟨sb, 0, none⟩), .int .i64 (t : Int)] wa fun e w'' => e = .returned (.int .i64 (longV ls ms t)) ∧ w'' = wa := hl.mono fun _ _ ⟨he, hw⟩ => ⟨he, hw.symm⟩
  have HL := Lib.hid hl'
  clear hl hl'
  have HW := Lib.hid hwa
  clear hwa
  have hlt := lt_of_block hj
  have hv := longV_bd ls ms t h1 h2
  obtain ⟨c0, c1, c2, c3, c4⟩ := sched_cells hs'
  obtain ⟨j0, j1, j2, j3, j4, j5, j6⟩ := job_cells hj'
  have fj := block_free hj'
  have fr := block_free hr'
  obtain ⟨r0, r1, r2⟩ : wa.cell? ⟨w.heap.size, 0, none⟩ = some (.int .i64 0) ∧ wa.cell? ⟨w.heap.size, 1, none⟩ = some (.int .i64 0) ∧ wa.cell? ⟨w.heap.size, 2, none⟩ = some (.int .i64 0) := by simp [World.cell?, hr']
  have hne : p ≠ w.heap.size := by omega
  have hne' : w.heap.size ≠ p := by omega
  have HJ := Lib.hid hj'
  have HR := Lib.hid hr'
  clear hs hj hs' hj' hr' c0 c2 c3 j2 j3
  have e1 : IntKind.i64.wrap ((num : Int) + t) = num + t := by rw [IntKind.wrap_i64]; omega
  have e2 : ((num : Int) + t).tmod wk = (num + t) % wk := Int.tmod_eq_emod_of_nonneg (by omega)
  have e3 : IntKind.i64.wrap (now + longV ls ms t) = now + longV ls ms t := by rw [IntKind.wrap_i64]; omega
  have e4 : ¬ wk = 0 := by omega
  go_enter Try.func18, Try.ntmps18
  go_wp2
  refine still_tail 33 (by kernel_rfl) (by kernel_rfl) wa HW.out ?_
  simp only [List.take_succ_cons, List.take_zero, List.drop_succ_cons, List.drop_zero]
  repeat still_step
  refine wpStill_step (fun K hK => ?_)
  go_simp
  refine ⟨_, HL.out, hK _ ?_⟩
  clear hK K
  repeat still_step
  refine wpStill_nil ?_
  clear HW e1 e2 e3 e4
  go_wp2
  have g0 := heap_setCell_same _ p 4 _ _ (.int .i64 (num : Int)) HJ.out
  have g1 := heap_setCell_same _ p 5 _ _ (.int .i64 ((num + t : Int) % wk)) g0
  have g2 := heap_setCell_same _ p 6 _ _ (.int .i64 (now + longV ls ms t)) g1
  have g3 := heap_setCell_same _ p 1 _ _ (.int .i64 ((t : Int) + 1)) g2
  refine bodyPost_ret (v := .agg #[.int .i64 num, .int .i64 ((num + t : Int) % wk), .int .i64 (now + longV ls ms t)]) (by simp [results, Try.results18, go_sem, r0, r1, r2]) rfl ⟨rfl, ?_, ?_⟩
  · rw [Below.heap_setCell _ _ _ _ (by simpa using hne), Below.heap_setCell _ _ _ _ (by simpa using hne), Below.heap_setCell _ _ _ _ (by simpa using hne), g3]
    simp [jobCells]
  · exact gb_set (gb_set (gb_set (gb_set (gb_set (gb_set (gb_set hgr (.inl rfl) _ _) (.inl rfl) _ _) (.inl rfl) _ _) (.inl rfl) _ _) (.inr (Nat.le_refl _)) _ _) (.inr (Nat.le_refl _)) _ _) (.inr (Nat.le_refl _)) _ _

end Go.Proofs.Ythfghlenabionaa
