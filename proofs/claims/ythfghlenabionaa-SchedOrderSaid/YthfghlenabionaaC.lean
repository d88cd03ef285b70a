/- The heap of a schedule, and what the lists of it are. -/
import Derived.Test.YthfghlenabionaaB
set_option linter.unusedVariables false
set_option linter.unusedSimpArgs false
namespace Go.Proofs.Ythfghlenabionaa
open Go.RowKit

/-- what became of a job -/
structure JobS where
  tries : Nat
  done : Bool
  a : Int
  b : Int
  u : Int

/-- The heap holds a schedule of n jobs, the i-th in block ps i, waiting for those of nds i. -/
structure Rep (w : World) (B sb n : Nat) (ps : Nat → Nat) (nds : Nat → List Nat) (wk ls ms now : Int) (st : Nat → JobS) : Prop where
  sbB : B ≤ sb
  sched : ∃ jv, w.heap[sb]? = some (.cells (schedCells jv wk ls ms now) 51 (0, 0)) ∧ w.ownsRow B 52 1 jv ((List.range n).map ps).length (((List.range n).map ps).map ptr)
  job : ∀ i, i < n → B ≤ ps i ∧ ∃ v, w.heap[ps i]? = some (.cells (jobCells i (st i).tries v (st i).done (st i).a (st i).b (st i).u) 54 (0, 0)) ∧ w.ownsRow B 52 1 v ((nds i).map ps).length (((nds i).map ps).map ptr)

/-- bounds of a schedule -/
structure Bds (n : Nat) (nds : Nat → List Nat) (wk ls ms now : Int) : Prop where
  many : n ≤ 16384
  w1 : 1 ≤ wk
  w2 : wk ≤ 64
  l1 : 1 ≤ ls
  l2 : ls ≤ ms
  l3 : ms ≤ 1073741824
  t1 : 0 ≤ now
  t2 : now ≤ 1073741824
  needs : ∀ i, i < n → ∀ k ∈ nds i, k < i

/-- A row of pointers survives where only blocks of jobs and schedules may have changed. -/
theorem row_keep {w w' : World} {B e n : Nat} {s : Nat} {v : Value} {xs : List Value} (h : w.ownsRow B e s v n xs) (hk : ∀ (k : Nat) c fz, w.heap[k]? = some (.cells c e fz) → w'.heap[k]? = w.heap[k]?) : w'.ownsRow B e s v n xs := by
  refine ⟨h.1, ?_⟩
  rcases h.2 with h2 | ⟨g, cap, cur, hv, hg, hh, r⟩
  · exact .inl h2
  · exact .inr ⟨g, cap, cur, hv, hg, by rw [hk g _ _ hh]; exact hh, r⟩

variable {w w' : World} {B sb n : Nat} {ps : Nat → Nat} {nds : Nat → List Nat} {wk ls ms now : Int} {st : Nat → JobS}

theorem Rep.below (h : Rep w B sb n ps nds wk ls ms now st) (hb : Below w.heap.size w w') : Rep w' B sb n ps nds wk ls ms now st := by
  have hk : ∀ (k : Nat) c (e : Nat) fz, w.heap[k]? = some (.cells c e fz) → w'.heap[k]? = w.heap[k]? := fun k c e fz hh => hb.block k (lt_of_block hh)
  obtain ⟨jv, h1, h2⟩ := h.sched
  refine ⟨h.sbB, ⟨jv, by rw [hk _ _ _ _ h1]; exact h1, row_keep h2 fun k c fz => hk k c _ fz⟩, fun i hi => ?_⟩
  obtain ⟨hB, v, h3, h4⟩ := h.job i hi
  exact ⟨hB, v, by rw [hk _ _ _ _ h3]; exact h3, row_keep h4 fun k c fz => hk k c _ fz⟩

/-- What is no block of a job, a schedule or a row of jobs may turn. -/
theorem Rep.keep (h : Rep w B sb n ps nds wk ls ms now st) (hk : ∀ (k : Nat) c (e : Nat) fz, w.heap[k]? = some (.cells c e fz) → e = 51 ∨ e = 52 ∨ e = 54 → w'.heap[k]? = w.heap[k]?) : Rep w' B sb n ps nds wk ls ms now st := by
  obtain ⟨jv, h1, h2⟩ := h.sched
  refine ⟨h.sbB, ⟨jv, by rw [hk _ _ _ _ h1 (by simp)]; exact h1, row_keep h2 fun k c fz hh => hk k c _ fz hh (by simp)⟩, fun i hi => ?_⟩
  obtain ⟨hB, v, h3, h4⟩ := h.job i hi
  exact ⟨hB, v, by rw [hk _ _ _ _ h3 (by simp)]; exact h3, row_keep h4 fun k c fz hh => hk k c _ fz hh (by simp)⟩

/-- A row of another kind is appended to. -/
theorem Rep.grown {b e s m : Nat} {v : Value} {xs : List Value} {o : Obj} (h : Rep w B sb n ps nds wk ls ms now st) (hv : w.ownsRow b e s v m xs) (he : e ≠ 51 ∧ e ≠ 52 ∧ e ≠ 54) (hg : (w.alloc o).grownBy w' v.ownBlock) :
    Rep w' B sb n ps nds wk ls ms now st := by
  refine h.keep fun k c e' fz hh he' => ?_
  have hlt := lt_of_block hh
  rw [hg.block k (by simp; omega) (fun e2 => ?_), Below.heap_alloc _ _ _ hlt]
  rcases hv.2 with ⟨rfl, _⟩ | ⟨g, cap, cur, rfl, _, hgg, _⟩
  · simp [Value.ownBlock] at e2
  · simp [Value.ownBlock] at e2
    subst e2
    rw [hgg] at hh
    simp at hh
    obtain ⟨_, rfl, _⟩ := hh
    rcases he' with h1 | h1 | h1
    · exact he.1 h1
    · exact he.2.1 h1
    · exact he.2.2 h1

theorem Rep.inj (h : Rep w B sb n ps nds wk ls ms now st) {i j : Nat} (hi : i < n) (hj : j < n) (e : ps i = ps j) : i = j := by
  obtain ⟨_, v, h3, _⟩ := h.job i hi
  obtain ⟨_, v', h4, _⟩ := h.job j hj
  rw [e, h4] at h3
  simp [jobCells] at h3
  omega

theorem Rep.sb_ne (h : Rep w B sb n ps nds wk ls ms now st) {i : Nat} (hi : i < n) : ps i ≠ sb := by
  intro e
  obtain ⟨jv, h1, _⟩ := h.sched
  obtain ⟨_, v', h4, _⟩ := h.job i hi
  rw [e, h1] at h4
  simp at h4

/-- Job i's block alone has changed. -/
theorem Rep.upd (h : Rep w B sb n ps nds wk ls ms now st) {i : Nat} (hi : i < n) (hb : ∀ k, k < w.heap.size → k ≠ ps i → w'.heap[k]? = w.heap[k]?) (x : JobS)
    (hx : ∀ v, w.heap[ps i]? = some (.cells (jobCells i (st i).tries v (st i).done (st i).a (st i).b (st i).u) 54 (0, 0)) → w'.heap[ps i]? = some (.cells (jobCells i x.tries v x.done x.a x.b x.u) 54 (0, 0))) :
    Rep w' B sb n ps nds wk ls ms now (fun j => if j = i then x else st j) := by
  obtain ⟨_, vi, hvi, _⟩ := h.job i hi
  have hk : ∀ (k : Nat) c (e : Nat) fz, e ≠ 54 → w.heap[k]? = some (.cells c e fz) → w'.heap[k]? = w.heap[k]? := fun k c e fz hne hh => by
    refine hb k (lt_of_block hh) fun e2 => ?_
    rw [e2, hvi] at hh
    simp at hh
    exact hne hh.2.1.symm
  obtain ⟨jv, h1, h2⟩ := h.sched
  refine ⟨h.sbB, ⟨jv, by rw [hk _ _ _ _ (by decide) h1]; exact h1, row_keep h2 fun k c fz => hk k c _ fz (by decide)⟩, fun j hj => ?_⟩
  obtain ⟨hB, v, h3, h4⟩ := h.job j hj
  refine ⟨hB, v, ?_, row_keep h4 fun k c fz => hk k c _ fz (by decide)⟩
  by_cases hji : j = i
  · subst hji
    simp only [if_true]
    exact hx v h3
  · simp only [if_neg hji]
    rw [hb _ (lt_of_block h3) (fun e => hji (h.inj hj hi e))]
    exact h3

theorem Rep.dn (h : Rep w B sb n ps nds wk ls ms now st) {i : Nat} (hi : i < n) (o : Nat) (x : Value) (hx : ∀ v, (jobCells i (st i).tries v (st i).done (st i).a (st i).b (st i).u)[o]? = some x) : w.cell? ⟨ps i, o, none⟩ = some x := by
  obtain ⟨_, v, h3, _⟩ := h.job i hi
  simp [World.cell?, h3, hx v]

/-- Below B nothing turns; from B on blocks of jobs and schedules alone. -/
structure Fr (B : Nat) (w w' : World) : Prop where
  below : Below B w w'
  keep : ∀ (k : Nat) c (e : Nat) fz, w.heap[k]? = some (.cells c e fz) → e ≠ 54 → e ≠ 51 → w'.heap[k]? = w.heap[k]?

theorem Fr.refl (B : Nat) (w : World) : Fr B w w := ⟨Below.refl _ _, fun _ _ _ _ _ _ _ => rfl⟩
theorem Fr.trans {B : Nat} {a b c : World} (h : Fr B a b) (k : Fr B b c) : Fr B a c :=
  ⟨h.below.trans k.below, fun i cs e fz hh h1 h2 => by
    have h3 := h.keep i cs e fz hh h1 h2
    rw [k.keep i cs e fz (h3.trans hh) h1 h2, h3]⟩
theorem Fr.of_below {B : Nat} {w w' : World} (h : Below w.heap.size w w') (hB : B ≤ w.heap.size) : Fr B w w' :=
  ⟨h.mono hB, fun k c e fz hh _ _ => h.block k (lt_of_block hh)⟩
theorem Fr.size {B : Nat} {w w' : World} (h : Fr B w w') : w.heap.size ≤ w'.heap.size := h.below.size
theorem Fr.row {B b e s m : Nat} {w w' : World} (h : Fr B w w') {v : Value} {xs : List Value} (hv : w.ownsRow b e s v m xs) (h1 : e ≠ 54) (h2 : e ≠ 51) : w'.ownsRow b e s v m xs :=
  row_keep hv fun k c fz hh => h.keep k c e fz hh h1 h2
theorem Fr.cell {B : Nat} {w w' : World} (h : Fr B w w') {k : Nat} {c : Array Value} {e : Nat} {fz : Nat × Nat} (hh : w.heap[k]? = some (.cells c e fz)) (h1 : e ≠ 54) (h2 : e ≠ 51) : w'.heap[k]? = some (.cells c e fz) :=
  (h.keep k c e fz hh h1 h2).trans hh

theorem Rep.size (h : Rep w B sb n ps nds wk ls ms now st) : B ≤ w.heap.size := by
  obtain ⟨jv, h1, _⟩ := h.sched
  have := h.sbB
  have := lt_of_block h1
  omega

/-- A row of the call's own is appended to. -/
theorem Fr.grown {B b e s m : Nat} {w w1 w2 : World} {v : Value} {xs : List Value} {o : Obj} (h : Fr B w w1) (hB : B ≤ w.heap.size) (hv : w1.ownsRow b e s v m xs) (hb : w.heap.size ≤ b) (hg : (w1.alloc o).grownBy w2 v.ownBlock) : Fr B w w2 := by
  have hsz := h.size
  have hk : ∀ k, k < w.heap.size → w2.heap[k]? = w1.heap[k]? := fun k hk => by
    rw [hg.block k (by simp; omega) (fun e2 => ?_), Below.heap_alloc _ _ _ (by omega)]
    have := (hv.lt k e2.symm).1
    omega
  refine ⟨⟨hg.os.trans h.below.os, hg.tape.trans h.below.tape, hg.output.trans h.below.output, ?_, fun k hkB => by rw [hk k (by omega)]; exact h.below.block k hkB⟩, fun k c e fz hh h1 h2 => by rw [hk k (lt_of_block hh)]; exact h.keep k c e fz hh h1 h2⟩
  have := hg.size
  simp at this
  omega

/-- what a job's block says of its being done -/
def dnW (w : World) (q : Nat) : Bool := match w.cell? ⟨q, 3, none⟩ with | some (.bool d) => d | _ => false

theorem Rep.dnW_eq (h : Rep w B sb n ps nds wk ls ms now st) {i : Nat} (hi : i < n) : dnW w (ps i) = (st i).done := by
  obtain ⟨_, v, h3, _⟩ := h.job i hi
  simp [dnW, World.cell?, h3, jobCells]

def waitB (st : Nat → JobS) (nd : List Nat) : Bool := nd.any fun k => !(st k).done
def openJ (st : Nat → JobS) (nds : Nat → List Nat) (now : Int) (i : Nat) : Bool := openB (st i).done (st i).tries (st i).u now (waitB st (nds i))
def leaseW (wk : Int) (i : Nat) (j : JobS) : Int := ((i : Int) + (j.tries : Int)) % wk
def leaseU (ls ms now : Int) (j : JobS) : Int := now + longV ls ms j.tries
def dealt (wk ls ms now : Int) (i : Nat) (j : JobS) : JobS := ⟨j.tries + 1, j.done, i, leaseW wk i j, leaseU ls ms now j⟩

theorem Rep.any_eq (h : Rep w B sb n ps nds wk ls ms now st) (hB : Bds n nds wk ls ms now) {i : Nat} (hi : i < n) : (((nds i).map ps).any fun q => !dnW w q) = waitB st (nds i) := by
  unfold waitB
  rw [List.any_map, Bool.eq_iff_iff, List.any_eq_true, List.any_eq_true]
  constructor
  · rintro ⟨k, hk, hd⟩
    exact ⟨k, hk, by simpa [h.dnW_eq (show k < n by have := hB.needs i hi k hk; omega)] using hd⟩
  · rintro ⟨k, hk, hd⟩
    exact ⟨k, hk, by simpa [h.dnW_eq (show k < n by have := hB.needs i hi k hk; omega)] using hd⟩

theorem next1_rep (h : Rep w B sb n ps nds wk ls ms now st) (hB : Bds n nds wk ls ms now) {i : Nat} (hi : i < n) (nb : Nat) (hn : w.cell? ⟨nb, 0, none⟩ = some (.int .i64 now)) :
    Calls Try.prog 16 #[ptr (ps i), .pointer (some ⟨nb, 0, none⟩)] w fun e w' => e = .returned (.bool (openJ st nds now i)) ∧ w = w' := by
  obtain ⟨_, v, h3, h4⟩ := h.job i hi
  have := next1_any (ps i) nb i _ v _ _ _ _ now ((nds i).map ps) (dnW w) B w h3 h4 (fun q hq => by
    obtain ⟨k, hk, rfl⟩ := List.mem_map.1 hq
    have hkn : k < n := by have := hB.needs i hi k hk; omega
    rw [h.dnW_eq hkn]
    exact h.dn hkn 3 _ (fun v => by simp [jobCells])) hn
  rw [h.any_eq hB hi] at this
  exact this

theorem deal_rep (h : Rep w B sb n ps nds wk ls ms now st) (hB : Bds n nds wk ls ms now) {i : Nat} (hi : i < n) (ht : (st i).tries ≤ 1000000000000) :
    Calls Try.prog 18 #[.pointer (some ⟨sb, 0, none⟩), ptr (ps i)] w fun e w' => e = .returned (.agg #[.int .i64 i, .int .i64 (leaseW wk i (st i)), .int .i64 (leaseU ls ms now (st i))]) ∧
      Rep w' B sb n ps nds wk ls ms now (fun j => if j = i then dealt wk ls ms now i (st i) else st j) ∧ Fr B w w' := by
  obtain ⟨jv, h1, _⟩ := h.sched
  obtain ⟨hpB, v, h3, h4⟩ := h.job i hi
  refine (deal_any sb (ps i) jv wk ls ms now i (st i).tries v (st i).done _ _ _ w h1 h3 hB.l1 hB.l2 hB.l3 ht (by have := hB.many; omega) hB.w1 hB.w2 hB.t1 hB.t2).mono ?_
  rintro e w' ⟨rfl, hp, hg⟩
  refine ⟨rfl, h.upd hi (fun k hk hne => hg.block k hk (by simpa using hne)) _ (fun v' hv' => ?_), ⟨⟨hg.os, hg.tape, hg.output, hg.size, fun k hk => hg.block k (by have := h.size; omega) (by simp; omega)⟩, fun k c e fz hh h1 h2 => hg.block k (lt_of_block hh) (fun e2 => ?_)⟩⟩
  · have : v' = v := by rw [h3] at hv'; simp [jobCells] at hv'; exact hv'.symm
    subst this
    simpa [dealt, leaseW, leaseU] using hp
  · simp at e2
    rw [e2, h3] at hh
    simp at hh
    exact h1 hh.2.1.symm

theorem Try.info35 : (Try.prog.info? 35).map (fun i => (i.zero, i.size, i.bytes)) = some (some (.agg #[.int .i64 0, .int .i64 0, .int .i64 0]), 3, 24) := by kernel_rfl
theorem Try.info3 : (Try.prog.info? 3).map (fun i => (i.zero, i.size, i.bytes)) = some (some (.int .i64 0), 1, 8) := by kernel_rfl

/-- a lease's cells; those of a list of them -/
def cells3 (l : List (Int × Int × Int)) : List Value := l.flatMap fun x => [.int .i64 x.1, .int .i64 x.2.1, .int .i64 x.2.2]
theorem cells3_length (l : List (Int × Int × Int)) : (cells3 l).length = l.length * 3 := by
  induction l with
  | nil => rfl
  | cons x r ih => simp only [cells3, List.flatMap_cons, List.length_append, List.length_cons, List.length_nil] at ih ⊢; omega
theorem cells3_append (l r : List (Int × Int × Int)) : cells3 (l ++ r) = cells3 l ++ cells3 r := by simp [cells3]

theorem new3 (w : World) (a b c : Value) (e : TypeId) (j : Nat) (u : Value) (h : [a, b, c][j]? = some u) : (w.alloc (.cells #[a, b, c] e)).cell? ((⟨w.heap.size, 0, none⟩ : Addr).add j) = some u := by
  have ha : (⟨w.heap.size, 0, none⟩ : Addr).add j = ⟨w.heap.size, 0 + j, none⟩ := by unfold Addr.add; split <;> simp_all
  rw [ha]
  have := heap_alloc_new w (.cells #[a, b, c] e)
  simp only [World.cell?, this]
  simpa using h

/-- the schedule and the list behind k jobs of Next -/
def stK (st : Nat → JobS) (nds : Nat → List Nat) (wk ls ms now : Int) (k : Nat) : Nat → JobS := fun i => if i < k ∧ openJ st nds now i = true then dealt wk ls ms now i (st i) else st i
def leaseOf (st : Nat → JobS) (wk ls ms now : Int) (i : Nat) : Int × Int × Int := (i, leaseW wk i (st i), leaseU ls ms now (st i))
def outK (st : Nat → JobS) (nds : Nat → List Nat) (wk ls ms now : Int) (k : Nat) : List (Int × Int × Int) := ((List.range k).filter fun i => openJ st nds now i).map (leaseOf st wk ls ms now)

theorem outK_len (st : Nat → JobS) (nds : Nat → List Nat) (wk ls ms now : Int) (k : Nat) : (outK st nds wk ls ms now k).length ≤ k := by
  simp only [outK, List.length_map]
  exact Nat.le_trans (List.length_filter_le _ _) (by simp)
theorem outK_succ (st : Nat → JobS) (nds : Nat → List Nat) (wk ls ms now : Int) (k : Nat) : outK st nds wk ls ms now (k + 1) = outK st nds wk ls ms now k ++ if openJ st nds now k = true then [leaseOf st wk ls ms now k] else [] := by
  simp only [outK, List.range_succ, List.filter_append, List.map_append]
  by_cases h : openJ st nds now k = true <;> simp [h]
theorem stK_done (st : Nat → JobS) (nds : Nat → List Nat) (wk ls ms now : Int) (k i : Nat) : (stK st nds wk ls ms now k i).done = (st i).done := by
  unfold stK; split <;> rfl
theorem stK_at (st : Nat → JobS) (nds : Nat → List Nat) (wk ls ms now : Int) (k : Nat) : stK st nds wk ls ms now k k = st k := by simp [stK]
theorem stK_open (st : Nat → JobS) (nds : Nat → List Nat) (wk ls ms now : Int) (k : Nat) : openJ (stK st nds wk ls ms now k) nds now k = openJ st nds now k := by
  have : waitB (stK st nds wk ls ms now k) (nds k) = waitB st (nds k) := by unfold waitB; simp [stK_done]
  unfold openJ; rw [this, stK_at]
theorem stK_yes (st : Nat → JobS) (nds : Nat → List Nat) (wk ls ms now : Int) (k : Nat) (h : openJ st nds now k = true) :
    (fun j => if j = k then dealt wk ls ms now k (st k) else stK st nds wk ls ms now k j) = stK st nds wk ls ms now (k + 1) := by
  funext j
  unfold stK
  by_cases hj : j = k
  · subst hj; simp [h]
  · have : j < k + 1 ↔ j < k := by omega
    simp [hj, this]
theorem stK_no (st : Nat → JobS) (nds : Nat → List Nat) (wk ls ms now : Int) (k : Nat) (h : openJ st nds now k = false) : stK st nds wk ls ms now k = stK st nds wk ls ms now (k + 1) := by
  funext j
  unfold stK
  by_cases hj : j = k
  · subst hj; simp [h]
  · have : j < k + 1 ↔ j < k := by omega
    simp [this]
theorem stK_zero (st : Nat → JobS) (nds : Nat → List Nat) (wk ls ms now : Int) : stK st nds wk ls ms now 0 = st := by funext j; simp [stK]

end Go.Proofs.Ythfghlenabionaa
