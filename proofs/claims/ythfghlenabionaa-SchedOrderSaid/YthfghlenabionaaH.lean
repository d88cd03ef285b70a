/- New: a schedule in which nothing is done. -/
import Derived.Test.YthfghlenabionaaG
import Derived.Test.YthfghlenabionaaF
set_option linter.unusedVariables false
set_option linter.unusedSimpArgs false
namespace Go.Proofs.Ythfghlenabionaa
open Go.RowKit

def ndsOf (nd : Nat → List Int) : Nat → List Nat := fun i => (nd i).map Int.toNat
def st0 : Nat → JobS := fun _ => ⟨0, false, 0, 0, 0⟩

/-- what New takes -/
structure Valid (n : Nat) (nd : Nat → List Int) (wk ls ms : Int) : Prop where
  many : n ≤ 16384
  long : ∀ i, i < n → (nd i).length ≤ 16384
  needs : ∀ i, i < n → ∀ x ∈ nd i, 0 ≤ x ∧ x < (i : Int)
  w1 : 1 ≤ wk
  w2 : wk ≤ 64
  l1 : 1 ≤ ls
  l2 : ls ≤ ms
  l3 : ms ≤ 1073741824

theorem row_ne {w : World} {b e s m k e' : Nat} {v : Value} {xs : List Value} {c : Array Value} {fz : Nat × Nat} (h : w.ownsRow b e s v m xs) (hk : w.heap[k]? = some (.cells c e' fz)) (hne : e ≠ e') : v.ownBlock ≠ some k := by
  rcases h.2 with ⟨rfl, _⟩ | ⟨g, cap, cur, rfl, _, hh, _⟩
  · simp [Value.ownBlock]
  · simp only [Value.ownBlock]
    intro e2
    simp at e2
    subst e2
    rw [hh] at hk
    simp at hk
    exact hne hk.2.1

theorem row_ne' {w : World} {b e s m k e' : Nat} {v : Value} {xs : List Value} {c : Array Value} {fz : Nat × Nat} (h : w.ownsRow b e s v m xs) (hk : w.heap[k]? = some (.cells c e' fz)) (hne : e ≠ e' := by decide) : v.ownBlock ≠ some k := row_ne h hk hne

theorem Rep.sb_lt {w : World} {B sb n : Nat} {ps : Nat → Nat} {nds : Nat → List Nat} {wk ls ms now : Int} {st : Nat → JobS} (h : Rep w B sb n ps nds wk ls ms now st) : sb < w.heap.size := by
  obtain ⟨jv, h1, _⟩ := h.sched
  exact lt_of_block h1

theorem take_next (nd : List Int) (t : Nat) (h : t < nd.length) (x : Int) (hx : x = nd.getD t 0) : nd.take (t + 1) = nd.take t ++ [x] := by
  rw [List.take_add_one, List.getElem?_eq_getElem h, hx, List.getD_eq_getElem?_getD, List.getElem?_eq_getElem h]; rfl

theorem cell_al {w : World} {o : Obj} {a : Addr} {v : Value} (h : w.cell? a = some v) : (w.alloc o).drew.cell? a = some v :=
  (World.cell?_of_block (w := w) (w' := (w.alloc o).drew) (Below.heap_alloc _ _ _ (lt_cell h))).trans h
theorem frozen_al {w : World} {o : Obj} {a : Addr} {v : Value} (hc : w.cell? a = some v) (h : w.frozen? a = false) : (w.alloc o).drew.frozen? a = false :=
  (World.frozen?_of_block (w := w) (w' := (w.alloc o).drew) (Below.heap_alloc _ _ _ (lt_cell hc))).trans h

/-- The row of jobs lies among the elder blocks. -/
theorem Rep.row_lt {w w' : World} {B sb n gj m cj : Nat} {ps : Nat → Nat} {nds : Nat → List Nat} {wk ls ms now : Int} {st : Nat → JobS} (h : Rep w B sb n ps nds wk ls ms now st) (hb : Below w.heap.size w w')
    (hs : w'.heap[sb]? = some (.cells (schedCells (.slice (some ⟨gj, 0, none⟩) m cj) wk ls ms now) 51 (0, 0))) (hn : 0 < n) : gj < w.heap.size := by
  obtain ⟨jv, h1, h2⟩ := h.sched
  rw [hb.block _ (lt_of_block h1), h1] at hs
  simp [schedCells] at hs
  subst hs
  exact (h2.lt gj rfl).2

def NewPost (w : World) (n : Nat) (nd : Nat → List Int) (wk ls ms : Int) (e : Ending) (w' : World) : Prop :=
  (∃ er : Int, er ≠ 0 ∧ e = .returned (.tuple #[.pointer none, .int .i64 er]) ∧ ¬ Valid n nd wk ls ms ∧ Below w.heap.size w w') ∨
  (∃ (sb : Nat) (ps : Nat → Nat), e = .returned (.tuple #[.pointer (some ⟨sb, 0, none⟩), .int .i64 0]) ∧ Valid n nd wk ls ms ∧ Rep w' w.heap.size sb n ps (ndsOf nd) wk ls ms 0 st0 ∧ Below w.heap.size w w')

/-- The rows of needs are none of them the row of jobs. -/
def Apart (w : World) (sb k : Nat) (ps : Nat → Nat) : Prop :=
  ∀ i, i < k → ∀ vi jv, w.cell? ⟨ps i, 2, none⟩ = some vi → w.cell? ⟨sb, 0, none⟩ = some jv → vi.ownBlock = none ∨ vi.ownBlock ≠ jv.ownBlock

/-- behind k jobs -/
def OutR (w : World) (sb n : Nat) (nd : Nat → List Int) (wk ls ms : Int) (k : Nat) (wr : World) : Prop :=
  ∃ ps : Nat → Nat, Rep wr w.heap.size sb k ps (ndsOf nd) wk ls ms 0 st0 ∧ Below w.heap.size w wr ∧ (∀ i, i < k → ∀ x ∈ nd i, 0 ≤ x ∧ x < (i : Int)) ∧ Apart wr sb k ps

/-- within a job, behind t of its needs: its block is pj, W is the world as it was ahead of them -/
structure InR (W : World) (pj k : Nat) (ps : Nat → Nat) (nd : List Int) (t : Nat) (wr : World) : Prop where
  below : Below pj W wr
  job : ∃ v, wr.heap[pj]? = some (.cells (jobCells k 0 v false 0 0 0) 54 (0, 0)) ∧ wr.ownsRow pj 52 1 v t ((nd.take t).map fun x => ptr (ps x.toNat))
  ok : ∀ x ∈ nd.take t, 0 ≤ x ∧ x < (k : Int)

theorem InR.step {W wr w2 : World} {pj k t xn gg cap : Nat} {ps : Nat → Nat} {nd : List Int} {vj : Value} {o : Obj} (h : InR W pj k ps nd t wr) (ht : t < nd.length) (hx : (xn : Int) = nd.getD t 0) (hxk : xn < k)
    (hj1 : wr.heap[pj]? = some (.cells (jobCells k 0 vj false 0 0 0) 54 (0, 0))) (hv : wr.ownsRow pj 52 1 vj t ((nd.take t).map fun x => ptr (ps x.toNat)))
    (hown : w2.ownsRow pj 52 1 (.slice (some ⟨gg, 0, none⟩) (t + 1) cap) (t + 1) (((nd.take t).map fun x => ptr (ps x.toNat)) ++ [.pointer (some ⟨ps xn, 0, none⟩)]))
    (hg : ((wr.alloc o).drew).grownBy w2 vj.ownBlock) : InR W pj k ps nd (t + 1) (w2.setCell ⟨pj, 2, none⟩ (.slice (some ⟨gg, 0, none⟩) (t + 1) cap)) := by
  have hlt := lt_of_block hj1
  have hne := row_ne hv hj1 (by decide)
  have hk : ∀ k', k' < wr.heap.size → some k' ≠ vj.ownBlock → w2.heap[k']? = wr.heap[k']? := fun k' hk' hn => by
    rw [hg.block k' (by simp [World.drew]; omega) hn]
    exact Below.heap_alloc _ _ _ hk'
  have hj2 := (hk pj hlt (fun e => hne e.symm)).trans hj1
  have hnx := take_next nd t ht xn hx
  have hgne : gg ≠ pj := fun e => row_ne hown hj2 (by decide) (by simp [Value.ownBlock, e])
  refine ⟨?_, ⟨_, heap_setCell_same w2 pj 2 _ _ _ hj2, ?_⟩, ?_⟩
  · suffices hb2 : Below pj W w2 from hb2.setCell (p := ⟨pj, 2, none⟩) (Nat.le_refl _) _
    refine ⟨hg.os.trans h.below.os, hg.tape.trans h.below.tape, hg.output.trans h.below.output, ?_, fun k' hk' => ?_⟩
    · have := hg.size; have := h.below.size; simp [World.drew] at *; omega
    · rw [hk k' (by omega) (fun e => by have := (hv.lt k' e.symm).1; omega)]
      exact h.below.block k' hk'
  · rw [hnx, List.map_append]
    exact ownsRow_setCell_other hown (by simp [Value.ownBlock, hgne]) _
  · intro x hx'
    rw [hnx, List.mem_append] at hx'
    rcases hx' with hx' | hx'
    · exact h.ok x hx'
    · simp at hx'
      subst hx'
      omega

theorem own_dec (v : Value) : v.ownBlock = none ∨ ∃ g, v.ownBlock = some g := by cases v.ownBlock <;> simp

theorem rep_step {W wo wr w2 : World} {B sb k m pj gg cap : Nat} {ps : Nat → Nat} {nds : Nat → List Nat} {nd : List Int} {wk ls ms : Int} {jv : Value} {o : Obj}
    (h0 : Rep wo B sb k ps nds wk ls ms 0 st0) (hb : Below wo.heap.size wo wr) (hpj : pj = wo.heap.size + 1) (hI : InR W pj k ps nd m wr) (hm : m = nd.length) (hnd : nds k = nd.map Int.toNat)
    (hap : Apart wo sb k ps) (hval : ∀ i, i < k → ∀ x ∈ nds i, x < i) (hs1 : wr.heap[sb]? = some (.cells (schedCells jv wk ls ms 0) 51 (0, 0))) (hs2 : wr.ownsRow B 52 1 jv k (((List.range k).map ps).map ptr))
    (hown : w2.ownsRow B 52 1 (.slice (some ⟨gg, 0, none⟩) (k + 1) cap) (k + 1) ((((List.range k).map ps).map ptr) ++ [.pointer (some ⟨pj, 0, none⟩)]))
    (hg : (wr.alloc o).grownBy w2 jv.ownBlock) (hat : jv.ownBlock = some gg ∨ gg = wr.heap.size + 1) :
    Rep (w2.setCell ⟨sb, 0, none⟩ (.slice (some ⟨gg, 0, none⟩) (k + 1) cap)) B sb (k + 1) (fun i => if i = k then pj else ps i) nds wk ls ms 0 st0 ∧
      Apart (w2.setCell ⟨sb, 0, none⟩ (.slice (some ⟨gg, 0, none⟩) (k + 1) cap)) sb (k + 1) (fun i => if i = k then pj else ps i) := by
  obtain ⟨vj, hj1, hj2⟩ := hI.job
  have hB := h0.size
  have hszr := hb.size
  have h := h0.below hb
  have hsb : sb < wo.heap.size := h0.sb_lt
  have hpjlt := lt_of_block hj1
  -- what is no row of jobs has not turned
  have hk : ∀ k', k' < wr.heap.size → jv.ownBlock ≠ some k' → w2.heap[k']? = wr.heap[k']? := fun k' hk' hn => by
    rw [hg.block k' (by simp; omega) (fun e => hn e.symm)]
    exact Below.heap_alloc _ _ _ hk'
  have hks : ∀ k', k' < wr.heap.size → jv.ownBlock ≠ some k' → k' ≠ sb → (w2.setCell ⟨sb, 0, none⟩ (.slice (some ⟨gg, 0, none⟩) (k + 1) cap)).heap[k']? = wr.heap[k']? := fun k' hk' hn hne => by
    rw [Below.heap_setCell _ _ _ _ hne]
    exact hk k' hk' hn
  -- the row of jobs lies ahead of this job
  have hjvlt : ∀ g, jv.ownBlock = some g → g < wo.heap.size := fun g hgg => by
    obtain ⟨jv0, h1, h2⟩ := h0.sched
    rw [hb.block _ (lt_of_block h1), h1] at hs1
    simp [schedCells] at hs1
    subst hs1
    exact (h2.lt g hgg).2
  have hpslt : ∀ i, i < k → ps i < wo.heap.size := fun i hi => by
    obtain ⟨_, v, h3, _⟩ := h0.job i hi
    exact lt_of_block h3
  -- the row of needs of an elder job is not the row of jobs
  have hapr : ∀ i, i < k → ∀ v, wr.heap[ps i]? = some (.cells (jobCells i 0 v false 0 0 0) 54 (0, 0)) → v.ownBlock = none ∨ v.ownBlock ≠ jv.ownBlock := fun i hi v hv => by
    have e1 : wo.heap[ps i]? = wr.heap[ps i]? := (hb.block _ (hpslt i hi)).symm
    have e2 : wo.heap[sb]? = wr.heap[sb]? := (hb.block _ hsb).symm
    refine hap i hi v jv ?_ ?_
    · simp [World.cell?, e1, hv, jobCells]
    · simp [World.cell?, e2, hs1, schedCells]
  have hjs : ∀ k' c e fz, e ≠ 52 → wr.heap[k']? = some (.cells c e fz) → jv.ownBlock ≠ some k' := fun k' c e fz hne hh => row_ne hs2 hh (fun e2 => hne e2.symm)
  have hsb2 := (hk sb (by omega) (hjs _ _ _ _ (by decide) hs1)).trans hs1
  have hggsb : gg ≠ sb := fun e => row_ne hown hsb2 (by decide) (by simp [Value.ownBlock, e])
  have hrowk : ∀ (v : Value) n' xs b, wr.ownsRow b 52 1 v n' xs → (v.ownBlock = none ∨ v.ownBlock ≠ jv.ownBlock) → (w2.setCell ⟨sb, 0, none⟩ (.slice (some ⟨gg, 0, none⟩) (k + 1) cap)).ownsRow b 52 1 v n' xs := fun v n' xs b hv hne => by
    refine ownsRow_setCell_other ?_ (row_ne' hv hs1) _
    exact (hv.alloc o).kept hg hne
  refine ⟨⟨h0.sbB, ⟨.slice (some ⟨gg, 0, none⟩) (k + 1) cap, by rw [heap_setCell_same w2 sb 0 _ _ _ hsb2]; simp [schedCells], ?_⟩, fun i hi => ?_⟩, fun i hi => ?_⟩
  · have e : ((List.range (k + 1)).map fun i => if i = k then pj else ps i) = (List.range k).map ps ++ [pj] := by
      rw [List.range_succ, List.map_append]
      congr 1
      · apply List.map_congr_left
        intro i hi
        have := List.mem_range.1 hi
        simp; omega
      · simp
    rw [e, List.map_append, List.length_append]
    simpa [ptr] using ownsRow_setCell_other hown (by simp [Value.ownBlock, hggsb]) (.slice (some ⟨gg, 0, none⟩) (k + 1) cap)
  · by_cases hik : i = k
    · subst hik
      refine ⟨by simp; omega, vj, ?_, ?_⟩
      · simp only [if_true]
        rw [hks pj hpjlt (hjs _ _ _ _ (by decide) hj1) (by omega)]
        exact hj1
      · have e : ((nds i).map fun i' => if i' = i then pj else ps i') = nd.map fun x => ps x.toNat := by
          rw [hnd, List.map_map]
          apply List.map_congr_left
          intro x hx
          have := hI.ok x (by rw [hm, List.take_length]; exact hx)
          simp; omega
        rw [e, List.length_map, List.map_map]
        rw [hm, List.take_length] at hj2
        exact hrowk vj _ _ _ (row_mono hj2 (by omega)) (by
          rcases own_dec vj with h1 | ⟨g, h1⟩
          · exact .inl h1
          · refine .inr fun e2 => ?_
            rw [h1] at e2
            have := hjvlt g e2.symm
            have := (hj2.lt g h1).1
            omega)
    · have hik' : i < k := by omega
      obtain ⟨hBp, v, h3, h4⟩ := h.job i hik'
      have e : ((nds i).map fun i' => if i' = k then pj else ps i') = (nds i).map ps := by
        apply List.map_congr_left
        intro x hx
        have := hval i hik' x hx
        simp; omega
      rw [e]
      simp only [if_neg hik]
      refine ⟨hBp, v, ?_, hrowk v _ _ _ h4 (hapr i hik' v h3)⟩
      rw [hks (ps i) (by have := hpslt i hik'; omega) (hjs _ _ _ _ (by decide) h3) (h.sb_ne hik')]
      exact h3
  · intro vi jv' hvi hjv'
    have ejv : jv' = .slice (some ⟨gg, 0, none⟩) (k + 1) cap := by
      have h5 := heap_setCell_same w2 sb 0 _ _ (.slice (some ⟨gg, 0, none⟩) (k + 1) cap) hsb2
      simp [World.cell?, h5, schedCells] at hjv'
      exact hjv'.symm
    rw [ejv]
    rcases own_dec vi with h1 | ⟨g, h1⟩
    · exact .inl h1
    · refine .inr fun e2 => ?_
      by_cases hik : i = k
      · subst hik
        simp only [if_true] at hvi
        have : vi = vj := by
          have h6 := hks pj hpjlt (hjs _ _ _ _ (by decide) hj1) (by omega)
          simp [World.cell?, h6, hj1, jobCells] at hvi
          exact hvi.symm
        subst this
        have h7 := hj2.lt g h1
        rw [h1] at e2
        simp [Value.ownBlock] at e2
        rcases hat with h8 | h8
        · have := hjvlt gg h8; omega
        · omega
      · have hik' : i < k := by omega
        simp only [if_neg hik] at hvi
        obtain ⟨hBp, v, h3, h4⟩ := h.job i hik'
        have : vi = v := by
          have h6 := hks (ps i) (by have := hpslt i hik'; omega) (hjs _ _ _ _ (by decide) h3) (h.sb_ne hik')
          simp [World.cell?, h6, h3, jobCells] at hvi
          exact hvi.symm
        subst this
        have h7 := h4.lt g h1
        rw [h1] at e2
        simp [Value.ownBlock] at e2
        rcases hat with h8 | h8
        · rcases hapr i hik' vi h3 with h9 | h9
          · rw [h1] at h9; simp at h9
          · exact h9 (by rw [h1, h8, e2])
        · omega

set_option maxHeartbeats 3200000 in
theorem new_any (v : Value) (n : Nat) (lv cv : Nat → Int) (nv : Nat → Value) (nd : Nat → List Int) (wk ls ms : Int) (w : World) (h : JobsIn w v n lv cv nv nd) :
    Calls Try.prog 7 #[v, .int .i64 wk, .int .i64 ls, .int .i64 ms] w (NewPost w n nd wk ls ms) := by
  obtain ⟨A, c, rfl, hm, hc⟩ := h.form
  by_cases hn : n ≤ 16384
  · have h13 := contains2_any h
    have H13 := Lib.hid h13
    have HJ := Lib.hid h
    have HC := Lib.hid hc
    clear h13 h hc
    have hnd : decide (16384 < n) = false := by simpa using hn
    go_enter Try.func7, Try.ntmps7
    go_wp2_with (go_at_call 13; refine H13.out.mono ?_; rintro e w1 ⟨b, rfl, hb, hb1⟩; have HB := Lib.hid hb; have HB1 := Lib.hid hb1; have hsz1 := hb1.size; clear hb hb1; cases b)
    · have hlong : ∀ i, i < n → (nd i).length ≤ 16384 := fun i hi => by
        rcases Nat.lt_or_ge 16384 (nd i).length with hx | hx
        · exact absurd (HB.out.2 ⟨i, hi, hx⟩) (by simp)
        · exact hx
      have HLONG := Lib.hid hlong
      clear hlong
      have HNDS : Hid (∀ k : Nat, (∀ i, i < k → ∀ x ∈ nd i, 0 ≤ x ∧ x < (i : Int)) → ∀ i, i < k → ∀ x ∈ ndsOf nd i, x < i) := by
        intro k hv i hi x hx
        obtain ⟨y, hy, rfl⟩ := List.mem_map.1 hx
        have := hv i hi y hy
        omega
      have HR0 : Hid (Rep (w1.alloc (.cells (schedCells (.slice none 0 0) wk ls ms 0) 51)) w.heap.size w1.heap.size 0 (fun _ => 0) (ndsOf nd) wk ls ms 0 st0) :=
        ⟨HB1.out.size, ⟨_, heap_alloc_new _ _, World.ownsRow_nil _ _ _ _⟩, fun i hi => by omega⟩
      go_loopw [30] (fun i wr => ∃ k : Nat, k ≤ n ∧ i = .int .i64 k ∧ OutR w w1.heap.size n nd wk ls ms k wr) (fun i _ => n - (intOf i).toNat)
      case atStart => exact ⟨0, by omega, rfl, _, HR0.out, HB1.out.alloc hsz1 _, fun i hi => by omega, fun i hi => by omega⟩
      case round =>
        obtain ⟨k, hk, rfl, hO⟩ := hrel
        obtain ⟨wo, rfl⟩ : ∃ wo : World, wo = wr := ⟨_, rfl⟩
        by_cases hlt : k < n
        · obtain ⟨ps, hrep, hbel, hval, hap⟩ := hO
          obtain ⟨g, o, rfl, hc⟩ := HC.out (by omega)
          obtain ⟨h1, h2, h3⟩ := hc k hlt
          have h1' := (hbel.cell (lt_cell h1)).trans h1
          have h2' := (hbel.cell (lt_cell h2)).trans h2
          have h3' := (hbel.cell (lt_cell h3)).trans h3
          obtain ⟨A', c', hv, hm', hcs⟩ := (HJ.out.needs k hlt).below hbel
          rw [hv] at h3'
          have HREP := Lib.hid hrep
          have HBEL := Lib.hid hbel
          have HVAL := Lib.hid hval
          have HAP := Lib.hid hap
          have HCS := Lib.hid hcs
          obtain ⟨m, hml⟩ : ∃ m, m = (nd k).length := ⟨_, rfl⟩
          rw [← hml] at h3' hm'
          have HML := Lib.hid hml
          have hszr := hbel.size
          clear hc h1 h2 h3 hv hrep hbel hval hcs hml hap
          go_wp2_with fail
          obtain ⟨W0, hW0⟩ : ∃ W0 : World, W0 = (wo.alloc (.cells #[.int .i64 (lv k), .int .i64 (cv k), .slice A' m c'] 38)).alloc (.cells #[.int .i64 (k : Int), .int .i64 0, .slice none 0 0, .bool false, .int .i64 0, .int .i64 0, .int .i64 0] 54) := ⟨_, rfl⟩
          rw [← hW0]
          have hs0 : W0.heap.size = wo.heap.size + 2 := by rw [hW0]; simp
          have hb0 : Below wo.heap.size wo W0 := by rw [hW0]; exact ((Below.refl _ _).alloc (Nat.le_refl _) _).alloc (by simp) _
          have hj0 : W0.heap[wo.heap.size + 1]? = some (.cells (jobCells k 0 (.slice none 0 0) false 0 0 0) 54 (0, 0)) := by
            rw [hW0]; have := heap_alloc_new (wo.alloc (.cells #[.int .i64 (lv k), .int .i64 (cv k), .slice A' m c'] 38)) (.cells #[.int .i64 (k : Int), .int .i64 0, .slice none 0 0, .bool false, .int .i64 0, .int .i64 0, .int .i64 0] 54); simpa [jobCells] using this
          have HW0 := Lib.hid hW0
          have HI0 : Hid (InR W0 (wo.heap.size + 1) k ps (nd k) 0 W0) := ⟨Below.refl _ _, ⟨_, hj0, World.ownsRow_nil _ _ _ _⟩, fun x hx => by simp at hx⟩
          have HS0 := Lib.hid hs0
          have HB0 := Lib.hid hb0
          have HJ0 := Lib.hid hj0
          clear hW0 hj0 hs0 hb0
          go_loopw [41] (fun i wi => ∃ t : Nat, t ≤ m ∧ i = .int .i64 t ∧ InR W0 (wo.heap.size + 1) k ps (nd k) t wi) (fun i _ => m - (intOf i).toNat)
          case atStart => exact ⟨0, by omega, rfl, HI0.out⟩
          case round =>
            obtain ⟨t, ht, rfl, hI⟩ := hrel
            by_cases htm : t < m
            · obtain ⟨ga, oa, rfl, hx0⟩ := HCS.out (by rw [← HML.out]; omega)
              have hx1 := hx0 t (by rw [← HML.out]; exact htm)
              have hbi : Below wo.heap.size wo wr := HB0.out.trans (hI.below.mono (by omega))
              have hx2 := (hbi.cell (lt_cell hx1)).trans hx1
              obtain ⟨x, hx⟩ : ∃ x, x = (nd k).getD t 0 := ⟨_, rfl⟩
              rw [← hx] at hx2
              have HXD := Lib.hid hx
              have HI := Lib.hid hI
              have HBI := Lib.hid hbi
              clear hx0 hx1 hx hI hbi
              have hmem : Hid (x ∈ nd k) := by
                show x ∈ nd k
                rw [HXD.out, List.getD_eq_getElem?_getD, List.getElem?_eq_getElem (by rw [← HML.out]; exact htm)]
                exact List.getElem_mem _
              by_cases hx3 : x < 0
              · go_wp2_with fail
                go_ret2
                exact .inl ⟨220, by decide, rfl, fun hV => by have := hV.needs k hlt x hmem.out; omega, HBEL.out.trans (HBI.out.mono hszr)⟩
              · by_cases hx4 : (k : Int) ≤ x
                · have hx5 : 0 ≤ x := by omega
                  clear hx3
                  go_wp2_with fail
                  go_ret2
                  exact .inl ⟨220, by decide, rfl, fun hV => by have := hV.needs k hlt x hmem.out; omega, HBEL.out.trans (HBI.out.mono hszr)⟩
                · obtain ⟨xn, hxn⟩ := Int.eq_ofNat_of_zero_le (show 0 ≤ x by omega)
                  subst hxn
                  have hxk : xn < k := by omega
                  clear hx3 hx4
                  have hrep := HREP.out.below HBI.out
                  obtain ⟨jv, hs1, hs2⟩ := hrep.sched
                  obtain ⟨gj, cj, rfl, hkm, hrow⟩ := row_at hs2 (by simp; omega)
                  have hgjlt : gj < wo.heap.size := HREP.out.row_lt HBI.out hs1 (by omega)
                  rw [show ((List.range k).map ps).length = k from by simp] at hs1 hkm
                  have hc0 := (sched_cells hs1).1
                  have hrx := hrow xn (ptr (ps xn)) (by simp [hxk])
                  obtain ⟨vj, hj1, hj2⟩ := HI.out.job
                  have hj3 := (job_cells hj1).2.2.1
                  have fj := block_free hj1 2
                  have hxi : (0 : Int) ≤ (xn : Int) := by omega
                  have hxi2 : (xn : Int) < (k : Int) := by omega
                  have HJ1 := Lib.hid hj1
                  have hszi := HBI.out.size
                  obtain ⟨q, hq⟩ : ∃ q, q = ps xn := ⟨_, rfl⟩
                  unfold ptr at hrx
                  rw [← hq] at hrx
                  have HQ := Lib.hid hq
                  clear hs1 hs2 hrow hj1 hrep hq
                  obtain ⟨i0, hi0, hz0, hz1, hz2⟩ := info_parts Try.info52
                  have ne1 : vj.ownBlock ≠ some (wo.heap.size + 1) := row_ne hj2 HJ1.out (by decide)
                  have ne2 : vj.ownBlock ≠ some w1.heap.size := fun e => by have := (hj2.lt _ e).1; have := lt_cell hc0; have := HREP.out.sb_lt; omega
                  have ne3 : vj.ownBlock ≠ some gj := fun e => by have := (hj2.lt _ e).1; have := hgjlt; omega
                  have l1 := lt_cell hj3
                  have l2 := lt_cell hc0
                  have l3 := lt_cell hrx
                  have hlim : m ≤ 16384 := by rw [HML.out]; exact HLONG.out k hlt
                  go_wp2_with fail
                  have hnews := World.news_of_block (cs := #[.pointer (some ⟨q, 0, none⟩)]) (t := 52) (fr := (0, 0)) (heap_alloc_new wr (.cells #[.pointer (some ⟨q, 0, none⟩)] 52))
                  have HNEWS := Lib.hid hnews
                  have hone : ∀ u ∈ [Value.pointer (some ⟨q, 0, none⟩)], u.oneCell' = true := by intro u hu; simp at hu; subst hu; rfl
                  have HONE := Lib.hid hone
                  have HO2 := Lib.hid ((hj2.alloc (.cells #[.pointer (some ⟨q, 0, none⟩)] 52)).drew)
                  clear hnews hone
                  go_region_law (first | (refine step_append_lies _ rfl (.tmp 56) (.tmp 64) 49 rfl (wo.heap.size + 1) 52 i0 (.pointer none) 1 8 Try.underlying49 hi0 hz0 hz1 hz2 rfl (by omega) vj t ((List.take t (nd k)).map fun x => ptr (ps x.toNat)) (by simp [Act.eval, Act.put]) HO2.out ⟨wr.heap.size, 0, none⟩ 1 1 [.pointer (some ⟨q, 0, none⟩)] (by simp [Act.eval, Act.put]) rfl HNEWS.out HONE.out (by omega) (by unfold maxLen; omega) (by omega) (by simp; omega) (wr.heap.size + 1) (by simp) ?_; intro gg cap w2 hown1 hgrow hat hlt2; have cA := (hgrow.cell_far ⟨wo.heap.size + 1, 2, none⟩ (by simp; omega) (Ne.symm ne1)).trans (cell_al hj3); have fA := (hgrow.frozen_far ⟨wo.heap.size + 1, 2, none⟩ (by simp; omega) (Ne.symm ne1)).trans (frozen_al hj3 fj)))
                  all_goals
                    have HSTEP := Lib.hid (HI.out.step (by rw [← HML.out]; exact htm) HXD.out hxk HJ1.out hj2 (by rw [← HQ.out]; exact hown1) hgrow)
                    clear hown1 hgrow hat hlt2 cA fA
                    go_wp2
                    go_roundw
                    case rel => exact ⟨t + 1, by omega, by go_num, HSTEP.out⟩
                    case measure => simp [intOf]; omega
            · obtain rfl : t = m := by omega
              have hbi : Below wo.heap.size wo wr := HB0.out.trans (hI.below.mono (by omega))
              have hrep := HREP.out.below hbi
              obtain ⟨jv, hs1, hs2⟩ := hrep.sched
              rw [show ((List.range k).map ps).length = k from by simp] at hs2
              have hc0 := (sched_cells hs1).1
              have fj := block_free hs1 0
              have hslt := lt_of_block hs1
              obtain ⟨i0, hi0, hz0, hz1, hz2⟩ := info_parts Try.info52
              have hszi := hbi.size
              have HI := Lib.hid hI
              have HBI := Lib.hid hbi
              have HS1 := Lib.hid hs1
              have ne1 : jv.ownBlock ≠ some w1.heap.size := row_ne hs2 hs1 (by decide)
              clear hI hbi hrep hs1
              go_wp2_with (at_builtin; refine wpList_append_lies _ rfl _ _ 49 rfl w.heap.size 52 i0 (.pointer none) 1 8 Try.underlying49 hi0 hz0 hz1 hz2 rfl (by decide) _ _ _ rfl (hs2.alloc _) ⟨wr.heap.size, 0, none⟩ 1 1 [.pointer (some ⟨wo.heap.size + 1, 0, none⟩)] rfl rfl ?c1 ?c2 ?c6 ?c3 ?c4 ?c5 (wr.heap.size + 1) (by simp) ?_)
              case c1 => exact fun j u hj => new1 _ _ _ j u hj
              case c2 => intro u hu; simp at hu; subst hu; rfl
              case c3 => unfold maxLen; omega
              case c4 => omega
              case c5 => simp; omega
              case c6 => omega
              intro gg cap w2 hown1 hgrow hat hlt2
              have cA := (hgrow.cell_far ⟨w1.heap.size, 0, none⟩ (by simp; omega) (Ne.symm ne1)).trans ((World.cell?_of_block (w := wr) (Below.heap_alloc _ _ _ hslt)).trans hc0)
              have fA := (hgrow.frozen_far ⟨w1.heap.size, 0, none⟩ (by simp; omega) (Ne.symm ne1)).trans ((World.frozen?_of_block (w := wr) (Below.heap_alloc _ _ _ hslt)).trans fj)
              have HOWN := Lib.hid hown1
              have HGROW := Lib.hid hgrow
              clear hown1 hgrow
              have HST := Lib.hid (rep_step (nd := nd k) HREP.out HBI.out rfl HI.out HML.out rfl HAP.out (HNDS.out k HVAL.out) HS1.out hs2 (by rw [List.map_map]; exact HOWN.out) HGROW.out hat)
              have HBN : Hid (Below w.heap.size w (w2.setCell ⟨w1.heap.size, 0, none⟩ (.slice (some ⟨gg, 0, none⟩) (k + 1) cap))) := by
                show Below w.heap.size w (w2.setCell ⟨w1.heap.size, 0, none⟩ (.slice (some ⟨gg, 0, none⟩) (k + 1) cap))
                have h1 := HBEL.out.trans (HBI.out.mono hszr)
                exact (((h1.alloc h1.size _).grown HGROW.out (by simp; omega) (fun g hg => (hs2.lt g hg).1)).setCell (p := ⟨w1.heap.size, 0, none⟩) hsz1 _)
              have HVN : Hid (∀ i, i < k + 1 → ∀ x ∈ nd i, 0 ≤ x ∧ x < (i : Int)) := by
                show ∀ i, i < k + 1 → ∀ x ∈ nd i, 0 ≤ x ∧ x < (i : Int)
                intro i hi x hx
                by_cases hik : i = k
                · subst hik
                  exact HI.out.ok x (by rw [HML.out, List.take_length]; exact hx)
                · exact HVAL.out i (by omega) x hx
              clear hat hs2 hc0 fj
              go_wp2
              exact ⟨⟨k + 1, by omega, by go_num, _, HST.out.1, HBN.out, HVN.out, HST.out.2⟩, by simp [intOf]; omega⟩
        · obtain rfl : k = n := by omega
          obtain ⟨ps, hrep, hbel, hval, _⟩ := hO
          have HREP := Lib.hid hrep
          have HBEL := Lib.hid hbel
          have HVAL := Lib.hid hval
          clear hrep hbel hval
          by_cases hok : 1 ≤ wk ∧ wk ≤ 64 ∧ 1 ≤ ls ∧ ls ≤ 1073741824 ∧ ls ≤ ms ∧ ms ≤ 1073741824
          · obtain ⟨k1, k2, k3, k4, k5, k6⟩ := hok
            go_wp2_with fail
            go_ret2
            exact .inr ⟨_, ps, rfl, ⟨hn, HLONG.out, HVAL.out, k1, k2, k3, k5, k6⟩, HREP.out, HBEL.out⟩
          · have hbad : wk < 1 ∨ 64 < wk ∨ ls < 1 ∨ 1073741824 < ls ∨ ms < ls ∨ 1073741824 < ms := by omega
            clear hok
            have HBAD := Lib.hid hbad
            clear hbad
            go_wp2_with fail
            all_goals go_ret2
            all_goals first
              | exact .inl ⟨1, by decide, rfl, fun hV => by have := hV.w1; have := hV.w2; have := hV.l1; have := hV.l2; have := hV.l3; have := HBAD.out; omega, HBEL.out⟩
              | (exfalso; have := HBAD.out; omega)
    · go_ret2
      refine .inl ⟨2, by decide, rfl, fun hV => ?_, HB1.out⟩
      obtain ⟨i, hi, hx⟩ := HB.out.1 trivial
      have := hV.long i hi
      omega
  · have hnd : decide (16384 < n) = true := by simp; omega
    clear h hc
    go_enter Try.func7, Try.ntmps7
    go_wp2_with fail
    go_ret2
    exact .inl ⟨2, by decide, rfl, fun hV => hn hV.many, Below.refl _ _⟩

end Go.Proofs.Ythfghlenabionaa
